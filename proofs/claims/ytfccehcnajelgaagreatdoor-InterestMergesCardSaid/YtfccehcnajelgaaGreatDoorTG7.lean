/- Functions of the program, and what they give: part 7. -/
import Derived.Test.YtfccehcnajelgaaGreatDoorTG6
namespace Go.Proofs.YtfccehcnajelgaaGreatDoor
open Go Go.RowKit
set_option maxRecDepth 4000
set_option maxHeartbeats 4000000

def tb18_5:List (Nat × Nat × Nat):=[(0,268435456,64),(1,536870912,268435456),(2,1073741824,536870912),(4,2147483648,1073741824),(0,4294967296,64),(16,8589934592,4294967296),(32,17179869184,8589934592),(64,34359738368,17179869184),(128,68719476736,34359738368),(264,137438953472,70866960384),(512,274877906944,137438953472),(1024,549755813888,274877906944),(0,1099511627776,4),(0,2199023255552,64),(8192,4398046511104,2199023255552),(20480,8796093022208,5497558138880),(34816,17592186044416,9345848836096),(0,128,0),(262143,0,17592186044544)]
def tb18_11:List (Nat × Nat × Nat):=[(0,590295810358705651712,128),(1,1180591620717411303424,590295810358705651712),(0,2361183241434822606848,4),(0,4722366482869645213696,64),(8,9444732965739290427392,4722366482869645213696),(16,18889465931478580854784,9444732965739290427392),(0,37778931862957161709568,256),(96,75557863725914323419136,56668397794435742564352),(132,151115727451828646838272,77919046967349146025984),(256,302231454903657293676544,151115727451828646838272),(512,604462909807314587353088,302231454903657293676544),(1282,1208925819614629174706176,605643501428031998656512),(4095,2417851639229258349412352,128),(8191,0,3626777458843887524118528)]
def tb18_16:List (Nat × Nat × Nat):=[(0,79228162514264337593543950336,32),(1,158456325028528675187087900672,79228162514264337593543950336),(0,316912650057057350374175801344,32),(4,633825300114114700748351602688,316912650057057350374175801344),(8,1267650600228229401496703205376,633825300114114700748351602688),(0,2535301200456458802993406410752,32),(32,5070602400912917605986812821504,2535301200456458802993406410752),(64,10141204801825835211973625643008,5070602400912917605986812821504),(0,20282409603651670423947251286016,32),(256,40564819207303340847894502572032,20282409603651670423947251286016),(512,81129638414606681695789005144064,40564819207303340847894502572032),(1168,162259276829213363391578010288128,92538493816660746309259333992448),(2048,324518553658426726783156020576256,162259276829213363391578010288128),(4098,649037107316853453566312041152512,324677009983455255458343108476928),(16383,1298074214633706907132624082305024,32),(32767,0,1947111321950560360698936123457536)]
theorem body53:bodyB Tryz.prog 53 = true:=by kernel_rfl
def wardmoteref22_Draft_Roll_l1 (n:Nat) (a0:TDraft50) (t0:Int) (d0:Nat × (List Int) → Option (List Int)):Nat × (List Int) → Option (List Int)
  | (b0,c0)=>(if b0 < ((a0.fe % (3:UInt8)).toNat) then (chk (9 * t0)).bind fun g0=>(chk (g0 + 7)).bind fun j0=>(chk (j0 + ((b0:Nat):Int))).bind fun k0=>(wardmoteref22_Draft_num_p n a0 k0).bind fun s0=>(remI s0 3).bind fun p0=>(app c0 ([p0]:List Int)).bind fun q0=>d0 (b0 + 1,q0) else some c0)
def wardmoteref22_Draft_Roll_l2 (_n:Nat) (a0:TDraft50) (d0:Nat × (List TUnit) → Option (List TUnit)):Nat × (List TUnit) → Option (List TUnit)
  | (b0,c0)=>(if b0 < ((a0.fu % (2:UInt8)).toNat) then (mk (((a0.fh % (3:UInt8)).toNat:Nat):Int) (0:Int)).bind fun g0=>(mk (((a0.fc % (4:UInt8)).toNat:Nat):Int) (0:Int)).bind fun j0=>(mk (((a0.fe % (3:UInt8)).toNat:Nat):Int) (0:Int)).bind fun k0=>(app c0 ([(⟨⟨#[115,101,97]⟩,(0:Int),g0,j0,k0,true⟩:TUnit)]:List TUnit)).bind fun p0=>d0 (b0 + 1,p0) else some c0)
def wardmoteref22_Draft_Roll_l3 (n:Nat) (a1:Int) (a0:TDraft50) (g0:Int × (List TUnit) → Option (List TUnit)):Int × (List TUnit) → Option (List TUnit)
  | (b0,c0)=>(if b0 < a1 then (remI b0 26).bind fun j0=>(chk (97 + j0)).bind fun k0=>(quoI b0 26).bind fun p0=>(remI p0 26).bind fun q0=>(chk (97 + q0)).bind fun s0=>(chk (9 * b0)).bind fun t0=>(wardmoteref22_Draft_num_p n a0 t0).bind fun d0=>(sadd ⟨#[117]⟩ (bstr ([u8ofI k0,u8ofI s0]:List UInt8))).bind fun u0=>(chk (9 * b0)).bind fun v0=>(chk (v0 + 1)).bind fun x0=>(wardmoteref22_Draft_list_p n a0 (((a0.fh % (3:UInt8)).toNat:Nat):Int) x0 d0).bind fun D0=>(chk (9 * b0)).bind fun y0=>(chk (y0 + 3)).bind fun z0=>(wardmoteref22_Draft_list_p n a0 (((a0.fc % (4:UInt8)).toNat:Nat):Int) z0 (255:Int)).bind fun E0=>Option.bind (loopF (wardmoteref22_Draft_Roll_l1 n a0 b0) n (0,([]:List Int))) (fun B0=>(app c0 ([(⟨u0,d0,D0,E0,B0,false⟩:TUnit)]:List TUnit)).bind fun C0=>(chk (b0 + 1)).bind fun A0=>g0 (A0,C0)) else some c0)
def wardmoteref22_Draft_Roll_p (n:Nat) (a0:TDraft50) (a1:Int):Option TRoll:=
  Option.bind (loopF (wardmoteref22_Draft_Roll_l3 n a1 a0) n (0,([]:List TUnit))) (fun c0=>Option.bind (loopF (wardmoteref22_Draft_Roll_l2 n a0) n (0,c0)) (fun b0=>some (⟨(((a0.fh % (3:UInt8)).toNat:Nat):Int),(((a0.fc % (4:UInt8)).toNat:Nat):Int),(((a0.fe % (3:UInt8)).toNat:Nat):Int),b0⟩:TRoll)))
theorem wardmoteref22_Draft_Roll_c (n:Nat) (L:List Nat) (w:World) (hL:∀ b ∈ L,b < w.heap.size) (a0:TDraft50) {v0_4:Value} (h0_4:Rep.R w L [v0_4] a0.fNums) (a1:Int)  {r:TRoll} (h:wardmoteref22_Draft_Roll_p n a0 a1 = some r) :
    Calls Tryz.prog 18 #[.agg #[.int .u8 (a0.fh.toNat:Int),.int .u8 (a0.fc.toNat:Int),.int .u8 (a0.fe.toNat:Int),.int .u8 (a0.fu.toNat:Int),v0_4],vI a1] w (Gives w fun w' u=>∃ v0_3:Value,u = .agg #[vI r.fh,vI r.fc,vI r.fe,v0_3]∧Rep.R w' L [v0_3] r.fo):=by
 unfold wardmoteref22_Draft_Roll_p at h
 have hS0:=AA w
 refine AC Tryz.func18 rfl rfl rfl (fun _ cs0 hb0=>?_)
 refine Ae<|Al .plain rfl (Ax hS0 rfl rfl) (fun F9 g0 C4 k9=>?_)
 refine Al .plain rfl (AD [vI 0,vI 0,vI 0,vN] C4) (fun K9 j0 X1 p9=>?_)
 refine Aa<|Ae<|Be 0 rfl<|Ba rfl ((X1.memA (.tl .hd)) 0 _ rfl)<|Ab (FV.rem8 (a:=a0.fh) (b:=(3:UInt8)) rfl rfl (by decide)) ?_
 have x9:=(a0.fh % (3:UInt8)).toNat_lt
 refine Ab (FV.convN (i:=(a0.fh % (3:UInt8)).toNat) Tryz.underlying5 Tryz.underlying3 rfl (by omega))<|Be 1 rfl<|Ba rfl ((X1.memA (.tl .hd)) 1 _ rfl)<|Ab (FV.rem8 (a:=a0.fc) (b:=(4:UInt8)) rfl rfl (by decide)) ?_
 have y9:=(a0.fc % (4:UInt8)).toNat_lt
 refine Ab (FV.convN (i:=(a0.fc % (4:UInt8)).toNat) Tryz.underlying5 Tryz.underlying3 rfl (by omega))<|Be 2 rfl<|Ba rfl ((X1.memA (.tl .hd)) 2 _ rfl)<|Ab (FV.rem8 (a:=a0.fe) (b:=(3:UInt8)) rfl rfl (by decide)) ?_
 have z9:=(a0.fe % (3:UInt8)).toNat_lt
 refine Ab (FV.convN (i:=(a0.fe % (3:UInt8)).toNat) Tryz.underlying5 Tryz.underlying3 rfl (by omega))<|Ab (AW (vs:=[vI (((a0.fh % (3:UInt8)).toNat:Nat):Int),vI (((a0.fc % (4:UInt8)).toNat:Nat):Int),vI (((a0.fe % (3:UInt8)).toNat:Nat):Int)]) (u:=.agg #[vI (((a0.fh % (3:UInt8)).toNat:Nat):Int),vI (((a0.fc % (4:UInt8)).toNat:Nat):Int),vI (((a0.fe % (3:UInt8)).toNat:Nat):Int),vN]) (e3 rfl rfl rfl) (fun w9=>by kernel_rfl))<|Al .plain rfl (AD [vI 0,vI 0,vI 0,vN] X1) (fun M9 p0 D4 q9=>?_)
 refine AY [vI (((a0.fh % (3:UInt8)).toNat:Nat):Int),vI (((a0.fc % (4:UInt8)).toNat:Nat):Int),vI (((a0.fe % (3:UInt8)).toNat:Nat):Int),vN] D4 .hd (onesB rfl) (fun s8 g3 s9=>?_)
 refine Aa<|Aj<|Ae<|Af rfl<|Aa<|Ar ?_
 have y2:=g3.nilRow 96 (Rep.size TUnit)
 have t9:=St.nilRowT g3 96 (Rep.size TUnit)
 have x5:=AB (cs:=[]) (xs:=([]:List TUnit)) y2 L (AM _ _)
 have j3:=y2.nilRow 96 (Rep.size TUnit)
 have W4:=St.nilRowT y2 96 (Rep.size TUnit)
 have u9:=AB (cs:=[]) (xs:=([]:List TUnit)) j3 L (AM _ _)
 have A6:=AF x5 W4
 obtain ⟨B9,M6,H5⟩:=bind_in2 h
 refine Bc (α:=Int × (List TUnit) × Value × (List Value)) (fun ⟨P0,y0,d0,z0⟩=>[(1,vI a1),(2,vP g0),(4,vP j0),(5,vP p0),(6,vI P0)]) (fun ⟨P0,y0,d0,z0⟩ P1=>St w P1 [.row w.heap.size 96 (Rep.size TUnit) vN (([]:List TUnit).length) [],.row w.heap.size 96 (Rep.size TUnit) d0 y0.length z0,.cells p0 [vI (((a0.fh % (3:UInt8)).toNat:Nat):Int),vI (((a0.fc % (4:UInt8)).toNat:Nat):Int),vI (((a0.fe % (3:UInt8)).toNat:Nat):Int),d0] 58,.cells j0 [vI 0,vI 0,vI 0,vN] 58,.cells g0 [.int .u8 (a0.fh.toNat:Int),.int .u8 (a0.fc.toNat:Int),.int .u8 (a0.fe.toNat:Int),.int .u8 (a0.fu.toNat:Int),v0_4] 51]∧Tr s8 [.row w.heap.size 96 (Rep.size TUnit) vN (([]:List TUnit).length) [],.row w.heap.size 96 (Rep.size TUnit) vN (([]:List TUnit).length) [],.cells p0 [vI (((a0.fh % (3:UInt8)).toNat:Nat):Int),vI (((a0.fc % (4:UInt8)).toNat:Nat):Int),vI (((a0.fe % (3:UInt8)).toNat:Nat):Int),vN] 58,.cells j0 [vI 0,vI 0,vI 0,vN] 58,.cells g0 [.int .u8 (a0.fh.toNat:Int),.int .u8 (a0.fc.toNat:Int),.int .u8 (a0.fe.toNat:Int),.int .u8 (a0.fu.toNat:Int),v0_4] 51] P1 [.row w.heap.size 96 (Rep.size TUnit) vN (([]:List TUnit).length) [],.row w.heap.size 96 (Rep.size TUnit) d0 y0.length z0,.cells p0 [vI (((a0.fh % (3:UInt8)).toNat:Nat):Int),vI (((a0.fc % (4:UInt8)).toNat:Nat):Int),vI (((a0.fe % (3:UInt8)).toNat:Nat):Int),d0] 58,.cells j0 [vI 0,vI 0,vI 0,vN] 58,.cells g0 [.int .u8 (a0.fh.toNat:Int),.int .u8 (a0.fc.toNat:Int),.int .u8 (a0.fe.toNat:Int),.int .u8 (a0.fu.toNat:Int),v0_4] 51]∧Cells P1 (bl [.row w.heap.size 96 (Rep.size TUnit) vN (([]:List TUnit).length) [],.row w.heap.size 96 (Rep.size TUnit) d0 y0.length z0,.cells p0 [vI (((a0.fh % (3:UInt8)).toNat:Nat):Int),vI (((a0.fc % (4:UInt8)).toNat:Nat):Int),vI (((a0.fe % (3:UInt8)).toNat:Nat):Int),d0] 58,.cells j0 [vI 0,vI 0,vI 0,vN] 58,.cells g0 [.int .u8 (a0.fh.toNat:Int),.int .u8 (a0.fc.toNat:Int),.int .u8 (a0.fe.toNat:Int),.int .u8 (a0.fu.toNat:Int),v0_4] 51] ++ L) z0 y0) (fun ⟨P0,y0,d0,z0⟩=>(P0,y0)) (0,([]:List TUnit),vN,[]) M6 ⟨rfl,rfl,rfl,rfl,rfl,trivial⟩ ⟨j3,AP _ _,A6⟩ ?_
 rintro M8 ⟨P0,y0,d0,z0⟩ P1 s4 ⟨J1,X4,D3⟩ h
 unfold wardmoteref22_Draft_Roll_l3 at h
 try dsimp only at h
 refine Aj<|Ae<|Ac rfl<|Ac rfl<|Ab (FV.lss (i:=P0) (j:=a1) rfl rfl)<|Aa<|AO rfl h (fun d4 h=>?_) (fun d4 h=>?_)
 refine Ap<|Aj<|Ar<|Aj<|dt 18 tb18_5 (fun q0 u0=>?_)
 refine Ah 0 1 q0 rfl u0 (fun _=>Ai rfl) rfl ?_
 obtain ⟨W7,j7,h⟩:=bi h
 refine Ah 1 3 q0 rfl u0 (fun _=>FV.remc (i:=P0) (j:=26) rfl rfl j7) rfl ?_
 obtain ⟨G0,k7,h⟩:=bi h
 refine Ah 2 7 q0 rfl u0 (fun _=>FV.addc (i:=97) (j:=W7) rfl rfl k7) rfl<|Ah 3 15 q0 rfl u0 (fun _=>FV.convU8 (i:=G0) Tryz.underlying3 Tryz.underlying5 rfl) rfl<|Ah 4 31 q0 rfl u0 (fun _=>Ai rfl) rfl ?_
 obtain ⟨X7,p7,h⟩:=bi h
 refine Ah 5 63 q0 rfl u0 (fun _=>FV.quoc (i:=P0) (j:=26) rfl rfl p7) rfl ?_
 obtain ⟨Y7,q7,h⟩:=bi h
 refine Ah 6 127 q0 rfl u0 (fun _=>FV.remc (i:=X7) (j:=26) rfl rfl q7) rfl ?_
 obtain ⟨x0,s7,h⟩:=bi h
 refine Ah 7 255 q0 rfl u0 (fun _=>FV.addc (i:=97) (j:=Y7) rfl rfl s7) rfl<|Ah 8 511 q0 rfl u0 (fun _=>FV.convU8 (i:=x0) Tryz.underlying3 Tryz.underlying5 rfl) rfl<|AE 12 4607 360448 q0 rfl u0 (AG rfl (J1.memA (.tl (.tl (.tl (.tl .hd)))))) rfl<|Ah 13 12799 q0 rfl u0 (fun _=>Ai rfl) rfl ?_
 obtain ⟨Z7,t7,h⟩:=bi h
 refine Ah 14 29183 q0 rfl u0 (fun _=>FV.mulc (i:=9) (j:=P0) rfl rfl t7) rfl ?_
 obtain ⟨s0,Q7,h⟩:=bi h
 refine RD.cq 15 61951 327680 (vI s0) q0 rfl u0 body52 rfl (e2 rfl rfl) (fun w9 hw9=>wardmoteref22_Draft_num_c n _ w9 (J1.hL0 hL hw9) a0 (J1.k0 h0_4 hw9) Z7 Q7) rfl ?_
 obtain ⟨t0,Y3,h⟩:=bi h
 refine RD.meet (α:=Nat) (fun k1=>[(1,vI a1),(2,vP g0),(4,vP j0),(5,vP p0),(6,vI P0),(44,.agg #[.string t0,vI s0,vN,vN,vN,.bool false]),(7,vP k1)]) (fun k1 b3=>St w b3 [.cells k1 [.string ⟨#[]⟩,vI 0,vN,vN,vN,.bool false] 96,.row w.heap.size 96 (Rep.size TUnit) vN (([]:List TUnit).length) [],.row w.heap.size 96 (Rep.size TUnit) d0 y0.length z0,.cells p0 [vI (((a0.fh % (3:UInt8)).toNat:Nat):Int),vI (((a0.fc % (4:UInt8)).toNat:Nat):Int),vI (((a0.fe % (3:UInt8)).toNat:Nat):Int),d0] 58,.cells j0 [vI 0,vI 0,vI 0,vN] 58,.cells g0 [.int .u8 (a0.fh.toNat:Int),.int .u8 (a0.fc.toNat:Int),.int .u8 (a0.fe.toNat:Int),.int .u8 (a0.fu.toNat:Int),v0_4] 51]∧Tr P1 [.row w.heap.size 96 (Rep.size TUnit) vN (([]:List TUnit).length) [],.row w.heap.size 96 (Rep.size TUnit) d0 y0.length z0,.cells p0 [vI (((a0.fh % (3:UInt8)).toNat:Nat):Int),vI (((a0.fc % (4:UInt8)).toNat:Nat):Int),vI (((a0.fe % (3:UInt8)).toNat:Nat):Int),d0] 58,.cells j0 [vI 0,vI 0,vI 0,vN] 58,.cells g0 [.int .u8 (a0.fh.toNat:Int),.int .u8 (a0.fc.toNat:Int),.int .u8 (a0.fe.toNat:Int),.int .u8 (a0.fu.toNat:Int),v0_4] 51] b3 [.cells k1 [.string ⟨#[]⟩,vI 0,vN,vN,vN,.bool false] 96,.row w.heap.size 96 (Rep.size TUnit) vN (([]:List TUnit).length) [],.row w.heap.size 96 (Rep.size TUnit) d0 y0.length z0,.cells p0 [vI (((a0.fh % (3:UInt8)).toNat:Nat):Int),vI (((a0.fc % (4:UInt8)).toNat:Nat):Int),vI (((a0.fe % (3:UInt8)).toNat:Nat):Int),d0] 58,.cells j0 [vI 0,vI 0,vI 0,vN] 58,.cells g0 [.int .u8 (a0.fh.toNat:Int),.int .u8 (a0.fc.toNat:Int),.int .u8 (a0.fe.toNat:Int),.int .u8 (a0.fu.toNat:Int),v0_4] 51]) 1 262143 ?_ ?_
 rintro k1 b3 ⟨E4,Y4⟩
 try dsimp only
 refine By 18 524287 q0 rfl rfl .plain (Az (news:=[.string t0,vI s0,vN,vN,vN,.bool false]) E4 .hd rfl rfl rfl rfl rfl rfl (onesB rfl)) (fun P9 K1 Z4=>?_)
 refine AK (dk q0)<|Ae<|Ab (AG rfl (K1.memA (.tl (.tl (.tl (.tl (.tl .hd)))))))<|Be 0 rfl<|Ab (AH rfl ((K1.memA (.tl (.tl (.tl .hd)))) 0 _ rfl))<|Ac rfl ?_
 obtain ⟨b8,u7,h⟩:=bi h
 refine Ab (FV.mulc (i:=9) (j:=P0) rfl rfl u7) ?_
 obtain ⟨c8,v7,h⟩:=bi h
 refine Ab (FV.addc (i:=b8) (j:=1) rfl rfl v7)<|Be 1 rfl<|Ba rfl ((K1.memA .hd) 1 _ rfl) ?_
 obtain ⟨q2,R7,h⟩:=bi h
 refine Bm (fst:=[]) (cap:=[]) .plain body53 rfl (e4 rfl rfl rfl rfl) (fun w9 hw9=>wardmoteref22_Draft_list_c n _ w9 (K1.hL hL hw9) a0 (K1.km h0_4 hw9) (((a0.fh % (3:UInt8)).toNat:Nat):Int) c8 s0 R7) rfl (fun Q9 Q0 k5 ⟨D9,hu_,c2⟩=>?_)
 subst hu_
 obtain ⟨F4,b5⟩:=K1.agr k5
 refine Be 2 rfl<|RG.now .plain (Bz (j:=2) (old:=[.string t0,vI s0,vN,vN,vN,.bool false]) (news:=[Q0]) (new' :=[.string t0,vI s0,Q0,vN,vN,.bool false]) F4 .hd rfl rfl rfl (Rep.c1 c2) rfl rfl (o1 (Bh c2)) rfl) (fun R9 Q1 u3=>?_)
 refine Aa<|Ae<|Ab (AG rfl (Q1.memA (.tl (.tl (.tl (.tl (.tl .hd)))))))<|Be 1 rfl<|Ab (AH rfl ((Q1.memA (.tl (.tl (.tl .hd)))) 1 _ rfl))<|Ac rfl ?_
 obtain ⟨d8,x7,h⟩:=bi h
 refine Ab (FV.mulc (i:=9) (j:=P0) rfl rfl x7) ?_
 obtain ⟨g8,y7,h⟩:=bi h
 refine Ab (FV.addc (i:=d8) (j:=3) rfl rfl y7) ?_
 obtain ⟨s2,U7,h⟩:=bi h
 refine Bm (fst:=[]) (cap:=[]) .plain body53 rfl (e4 rfl rfl rfl rfl) (fun w9 hw9=>wardmoteref22_Draft_list_c n _ w9 (Q1.hL hL hw9) a0 (Q1.km h0_4 hw9) (((a0.fc % (4:UInt8)).toNat:Nat):Int) g8 (255:Int) U7) rfl (fun U9 Y0 p5 ⟨E9,hu_,d2⟩=>?_)
 subst hu_
 obtain ⟨G4,v3⟩:=Q1.agr p5
 refine Be 3 rfl<|RG.now .plain (Bz (j:=3) (old:=[.string t0,vI s0,Q0,vN,vN,.bool false]) (news:=[Y0]) (new' :=[.string t0,vI s0,Q0,Y0,vN,.bool false]) G4 .hd rfl rfl rfl (Rep.c1 d2) rfl rfl (o1 (Bh d2)) rfl) (fun x8 k3 R2=>?_)
 refine Aa<|Aj<|Ae<|Af rfl<|Aa<|Ar ?_
 have p3:=k3.nilRow 3 (Rep.size Int)
 have U2:=St.nilRowT k3 3 (Rep.size Int)
 have y5:=AB (cs:=[]) (xs:=([]:List Int)) p3 L (AM _ _)
 obtain ⟨C9,P6,I5⟩:=bind_in2 h
 refine Bc (α:=Nat × (List Int) × Value × (List Value)) (fun ⟨z1,W0,K0,E1⟩=>[(1,vI a1),(2,vP g0),(4,vP j0),(5,vP p0),(6,vI P0),(7,vP k1),(8,vI ((z1:Nat):Int))]) (fun ⟨z1,W0,K0,E1⟩ p2=>St w p2 [.row w.heap.size 3 (Rep.size Int) K0 W0.length E1,.cells k1 [.string t0,vI s0,Q0,Y0,K0,.bool false] 96,.row w.heap.size 96 (Rep.size TUnit) vN (([]:List TUnit).length) [],.row w.heap.size 96 (Rep.size TUnit) d0 y0.length z0,.cells p0 [vI (((a0.fh % (3:UInt8)).toNat:Nat):Int),vI (((a0.fc % (4:UInt8)).toNat:Nat):Int),vI (((a0.fe % (3:UInt8)).toNat:Nat):Int),d0] 58,.cells j0 [vI 0,vI 0,vI 0,vN] 58,.cells g0 [.int .u8 (a0.fh.toNat:Int),.int .u8 (a0.fc.toNat:Int),.int .u8 (a0.fe.toNat:Int),.int .u8 (a0.fu.toNat:Int),v0_4] 51]∧Tr x8 [.row w.heap.size 3 (Rep.size Int) vN (([]:List Int).length) [],.cells k1 [.string t0,vI s0,Q0,Y0,vN,.bool false] 96,.row w.heap.size 96 (Rep.size TUnit) vN (([]:List TUnit).length) [],.row w.heap.size 96 (Rep.size TUnit) d0 y0.length z0,.cells p0 [vI (((a0.fh % (3:UInt8)).toNat:Nat):Int),vI (((a0.fc % (4:UInt8)).toNat:Nat):Int),vI (((a0.fe % (3:UInt8)).toNat:Nat):Int),d0] 58,.cells j0 [vI 0,vI 0,vI 0,vN] 58,.cells g0 [.int .u8 (a0.fh.toNat:Int),.int .u8 (a0.fc.toNat:Int),.int .u8 (a0.fe.toNat:Int),.int .u8 (a0.fu.toNat:Int),v0_4] 51] p2 [.row w.heap.size 3 (Rep.size Int) K0 W0.length E1,.cells k1 [.string t0,vI s0,Q0,Y0,K0,.bool false] 96,.row w.heap.size 96 (Rep.size TUnit) vN (([]:List TUnit).length) [],.row w.heap.size 96 (Rep.size TUnit) d0 y0.length z0,.cells p0 [vI (((a0.fh % (3:UInt8)).toNat:Nat):Int),vI (((a0.fc % (4:UInt8)).toNat:Nat):Int),vI (((a0.fe % (3:UInt8)).toNat:Nat):Int),d0] 58,.cells j0 [vI 0,vI 0,vI 0,vN] 58,.cells g0 [.int .u8 (a0.fh.toNat:Int),.int .u8 (a0.fc.toNat:Int),.int .u8 (a0.fe.toNat:Int),.int .u8 (a0.fu.toNat:Int),v0_4] 51]∧Cells p2 (bl [.row w.heap.size 3 (Rep.size Int) K0 W0.length E1,.cells k1 [.string t0,vI s0,Q0,Y0,K0,.bool false] 96,.row w.heap.size 96 (Rep.size TUnit) vN (([]:List TUnit).length) [],.row w.heap.size 96 (Rep.size TUnit) d0 y0.length z0,.cells p0 [vI (((a0.fh % (3:UInt8)).toNat:Nat):Int),vI (((a0.fc % (4:UInt8)).toNat:Nat):Int),vI (((a0.fe % (3:UInt8)).toNat:Nat):Int),d0] 58,.cells j0 [vI 0,vI 0,vI 0,vN] 58,.cells g0 [.int .u8 (a0.fh.toNat:Int),.int .u8 (a0.fc.toNat:Int),.int .u8 (a0.fe.toNat:Int),.int .u8 (a0.fu.toNat:Int),v0_4] 51] ++ L) E1 W0) (fun ⟨z1,W0,K0,E1⟩=>(z1,W0)) (0,([]:List Int),vN,[]) P6 ⟨rfl,rfl,rfl,rfl,rfl,rfl,rfl,trivial⟩ ⟨p3,AP _ _,y5⟩ ?_
 rintro P8 ⟨z1,W0,K0,E1⟩ p2 t4 ⟨b1,Z1,E3⟩ h
 unfold wardmoteref22_Draft_Roll_l1 at h
 try dsimp only at h
 refine Aj<|Ae<|Ac rfl<|Be 2 rfl<|Ab (AH rfl ((b1.memA (.tl (.tl (.tl (.tl .hd))))) 2 _ rfl))<|Ab (Bd (i:=z1) (j:=(a0.fe % (3:UInt8)).toNat) rfl rfl)<|Aa<|AO rfl h (fun g4 h=>?_) (fun g4 h=>?_)
 refine Ap<|Aj<|Ar<|dt 11 tb18_11 (fun v0 x1=>?_)
 refine Ah 0 1 v0 rfl x1 (fun _=>Bj 4 rfl) rfl<|AE 1 3 14336 v0 rfl x1 (AH rfl ((b1.memA (.tl .hd)) 4 _ rfl)) rfl<|AE 2 7 16128 v0 rfl x1 (AG rfl (b1.memA (.tl (.tl (.tl (.tl (.tl (.tl .hd)))))))) rfl<|Ah 3 15 v0 rfl x1 (fun _=>Ai rfl) rfl ?_
 obtain ⟨j8,z7,h⟩:=bi h
 refine Ah 4 31 v0 rfl x1 (fun _=>FV.mulc (i:=9) (j:=P0) rfl rfl z7) rfl ?_
 obtain ⟨k8,A7,h⟩:=bi h
 refine Ah 5 63 v0 rfl x1 (fun _=>FV.addc (i:=j8) (j:=7) rfl rfl A7) rfl<|Ah 6 127 v0 rfl x1 (fun _=>Ai rfl) rfl ?_
 obtain ⟨p8,B7,h⟩:=bi h
 refine Ah 7 255 v0 rfl x1 (fun _=>FV.addc (i:=k8) (j:=((z1:Nat):Int)) rfl rfl B7) rfl ?_
 obtain ⟨Z3,V7,h⟩:=bi h
 refine RD.cq 8 511 15872 (vI Z3) v0 rfl x1 body52 rfl (e2 rfl rfl) (fun w9 hw9=>wardmoteref22_Draft_num_c n _ w9 (b1.hL0 hL hw9) a0 (b1.k0 h0_4 hw9) p8 V7) rfl ?_
 obtain ⟨G1,C7,h⟩:=bi h
 refine Ah 9 1023 v0 rfl x1 (fun _=>FV.remc (i:=Z3) (j:=3) rfl rfl C7) rfl<|RD.nu 10 2047 v0 rfl .plain rfl (AV (α:=Int) (xs:=([G1]:List Int)) (vs:=[vI G1]) (ds' :=[vI G1]) rfl b1 el52 rfl (e1 rfl) (by kernel_rfl) rfl) (fun V9 R8 A2 x3=>?_)
 have z5:=AB (cs:=[vI G1]) (xs:=(([G1]:List Int):List Int)) A2 L (Aq (cs:=[vI G1]) (ds:=[]) rfl (AM _ _))
 obtain ⟨z8,M7,h⟩:=bi h
 have B6:=AF E3 x3
 refine BB (i:=11) (rk v0) (RO.doesL (m' :=4095) (sk v0) rfl rfl .plain rfl (DoesL.app (α:=Int) (ys:=([G1]:List Int)) M7 A2 (fun _ _=>(.tl .hd)) el52 rfl rfl B6 (Src.row (α:=Int) A2 .hd z5)) (fun Y2 W9 ⟨k4,B2,c5,A5⟩=>?_))
 refine BB (i:=12) (rk v0) (RO.val (m' :=8191) (sk v0) rfl .plain rfl (Bj 4 rfl) ?_)
 refine By 13 16383 v0 rfl rfl .plain (Bz (j:=4) (old:=[.string t0,vI s0,Q0,Y0,K0,.bool false]) (news:=[Y2]) (new' :=[.string t0,vI s0,Q0,Y0,Y2,.bool false]) B2 (.tl (.tl .hd)) rfl rfl rfl (St.c1 (α:=Int) B2 (.tl .hd)) rfl rfl (o1 (St.o1 (α:=Int) B2 (.tl .hd))) rfl) (fun X9 H4 y3=>?_)
 refine AK (dk v0)<|Av<|Am<|Ac rfl<|Ab (Bi (i:=z1) (j:=1) rfl rfl (by omega))<|Af rfl<|Aa ?_
 obtain ⟨I4,z3⟩:=AJ H4 (.one (.tl .hd) (.one (.tl .hd) (.one (.tl .hd) (.one (.tl .hd) (.one (.tl .hd) (.one (.tl .hd) (.one (.tl .hd) .done)))))))
 have C6:=AF A5 (Tt y3 z3)
 have U6:=Tt x3 (Tt c5 (Tt y3 z3))
 exact t4 (z1 + 1,z8,Y2,k4) _ _ ⟨rfl,rfl,rfl,rfl,rfl,rfl,rfl,trivial⟩ ⟨I4,(Tt Z1 U6),C6⟩ h
 refine AU rfl ?_
 have h:=I5 _ h
 try dsimp only at h
 refine Am<|Be 3 rfl<|Ab (AH rfl ((b1.memA (.tl (.tl (.tl (.tl .hd))))) 3 _ rfl))<|Ab (AG rfl (b1.memA (.tl .hd))) ?_
 have g7:=Bu (α:=Int) b1 .hd E3 hL
 have q3:=St.delS b1 .hd
 have V2:=St.delT b1 .hd
 have X3:=Rep.at_ (α:=Int) (v:=K0) (xs:=W0) q3 L g7
 have P3:=Tt u3 (Tt v3 (Tt R2 (Tt U2 (Tt Z1 V2))))
 have D6:=Ay c2 P3
 have Q3:=Tt R2 (Tt U2 (Tt Z1 V2))
 have E6:=Ay d2 Q3
 obtain ⟨H8,c9,H7,_⟩:=Rep.sl D6
 obtain ⟨I8,d9,I7,_⟩:=Rep.sl E6
 obtain ⟨J8,g9,J7,_⟩:=Rep.sl X3
 refine Al .plain rfl (AV (α:=TUnit) (xs:=([(⟨t0,s0,q2,s2,W0,false⟩:TUnit)]:List TUnit)) (vs:=[.agg #[.string t0,vI s0,Q0,Y0,K0,.bool false]]) (ds' :=[.string t0,vI s0,Q0,Y0,K0,.bool false]) rfl q3 el56 rfl (e1 rfl) (by rw [H7,I7,J7]; try kernel_rfl) rfl) (fun Y9 U8 C2 b2=>?_)
 have F6:=Ay c2 (Tt P3 b2)
 have G6:=Ay d2 (Tt Q3 b2)
 have H6:=Ay X3 b2
 have B5:=AB (cs:=[.string t0,vI s0,Q0,Y0,K0,.bool false]) (xs:=(([(⟨t0,s0,q2,s2,W0,false⟩:TUnit)]:List TUnit):List TUnit)) C2 L (Aq (cs:=[.string t0,vI s0,Q0,Y0,K0,.bool false]) (ds:=[]) (mk_TUnit t0 s0 q2 F6 s2 G6 W0 H6 false) (AM _ _))
 obtain ⟨A8,P7,h⟩:=bi h
 have R3:=Tt Y4 (Tt Z4 (Tt b5 (Tt u3 (Tt v3 (Tt R2 (Tt U2 (Tt Z1 (Tt V2 b2))))))))
 have I6:=AF D3 R3
 refine RG.doesL .plain rfl (DoesL.app (α:=TUnit) (ys:=([(⟨t0,s0,q2,s2,W0,false⟩:TUnit)]:List TUnit)) P7 C2 (fun _ _=>(.tl (.tl (.tl .hd)))) el56 rfl rfl I6 (Src.row (α:=TUnit) C2 .hd B5)) (fun Z2 Z9 ⟨p4,D2,d5,C5⟩=>?_)
 refine Be 3 rfl<|RG.now .plain (Bz (j:=3) (old:=[vI (((a0.fh % (3:UInt8)).toNat:Nat):Int),vI (((a0.fc % (4:UInt8)).toNat:Nat):Int),vI (((a0.fe % (3:UInt8)).toNat:Nat):Int),d0]) (news:=[Z2]) (new' :=[vI (((a0.fh % (3:UInt8)).toNat:Nat):Int),vI (((a0.fc % (4:UInt8)).toNat:Nat):Int),vI (((a0.fe % (3:UInt8)).toNat:Nat):Int),Z2]) D2 (.tl (.tl (.tl (.tl .hd)))) rfl rfl rfl (St.c1 (α:=TUnit) D2 (.tl (.tl (.tl .hd)))) rfl rfl (o1 (St.o1 (α:=TUnit) D2 (.tl (.tl (.tl .hd))))) rfl) (fun b00 J4 A3=>?_)
 refine Aa<|Av<|Am<|Ac rfl ?_
 obtain ⟨q8,D7,h⟩:=bi h
 refine Ab (FV.addc (i:=P0) (j:=1) rfl rfl D7)<|Af rfl<|Aa ?_
 obtain ⟨K4,B3⟩:=AJ J4 (.one (.tl (.tl .hd)) (.one (.tl (.tl .hd)) (.one (.tl (.tl .hd)) (.one (.tl (.tl .hd)) (.one (.tl (.tl .hd)) .done)))))
 have J6:=AF C5 (Tt A3 B3)
 have V6:=Tt R3 (Tt d5 (Tt A3 B3))
 exact s4 (q8,A8,Z2,p4) _ _ ⟨rfl,rfl,rfl,rfl,rfl,trivial⟩ ⟨K4,(Tt X4 V6),J6⟩ h
 intro c3
 refine RD.each [9,17] (rk q0) ⟨?_,?_,trivial⟩
 refine RO.new (m' :=62463) (sk q0) rfl .plain rfl (AV (α:=UInt8) (xs:=([u8ofI G0,u8ofI x0]:List UInt8)) (vs:=[.int .u8 ((u8ofI G0).toNat:Int),.int .u8 ((u8ofI x0).toNat:Int)]) (ds' :=[.int .u8 ((u8ofI G0).toNat:Int),.int .u8 ((u8ofI x0).toNat:Int)]) rfl J1 el46 rfl (e2 rfl rfl) (by kernel_rfl) rfl) (fun t8 b4 F1 P2=>?_)
 have W2:=AB (cs:=[.int .u8 ((u8ofI G0).toNat:Int),.int .u8 ((u8ofI x0).toNat:Int)]) (xs:=(([u8ofI G0,u8ofI x0]:List UInt8):List UInt8)) F1 L (Aq (cs:=[.int .u8 ((u8ofI G0).toNat:Int)]) (ds:=[.int .u8 ((u8ofI x0).toNat:Int)]) rfl (Aq (cs:=[.int .u8 ((u8ofI x0).toNat:Int)]) (ds:=[]) rfl (AM _ _)))
 refine AE 10 63487 329728 q0 rfl u0 (FV.bytesS (xs:=([u8ofI G0,u8ofI x0]:List UInt8)) Tryz.underlying46 Tryz.underlying9 Tryz.underlying5 rfl (Src.row (α:=UInt8) F1 .hd W2)) rfl<|Ah 11 65535 q0 rfl u0 (fun _=>FV.addS Y3 rfl rfl) rfl<|Ah 16 131071 q0 rfl u0 (fun _=>AW (vs:=[.string t0,vI s0]) (u:=.agg #[.string t0,vI s0,vN,vN,vN,.bool false]) (e2 rfl rfl) (fun w9=>by kernel_rfl)) rfl<|RD.nu 17 262143 q0 rfl .plain rfl (AD [.string ⟨#[]⟩,vI 0,vN,vN,vN,.bool false] F1) (fun v8 t2 z2 Q2=>?_)
 obtain ⟨M4,g5⟩:=AJ z2 (.one .hd (.one (.tl .hd) (.one (.tl .hd) (.one (.tl .hd) (.one (.tl .hd) (.one (.tl .hd) .done))))))
 have W6:=Tt P2 (Tt Q2 g5)
 exact c3 t2 _ _ ⟨rfl,rfl,rfl,rfl,rfl,rfl,rfl,trivial⟩ ⟨M4,W6⟩
 refine RO.new (m' :=193023) (sk q0) rfl .plain rfl (AD [.string ⟨#[]⟩,vI 0,vN,vN,vN,.bool false] J1) (fun v8 t2 z2 Q2=>?_)
 refine RD.nu 9 193535 q0 rfl .plain rfl (AV (α:=UInt8) (xs:=([u8ofI G0,u8ofI x0]:List UInt8)) (vs:=[.int .u8 ((u8ofI G0).toNat:Int),.int .u8 ((u8ofI x0).toNat:Int)]) (ds' :=[.int .u8 ((u8ofI G0).toNat:Int),.int .u8 ((u8ofI x0).toNat:Int)]) rfl z2 el46 rfl (e2 rfl rfl) (by kernel_rfl) rfl) (fun t8 b4 F1 P2=>?_)
 have W2:=AB (cs:=[.int .u8 ((u8ofI G0).toNat:Int),.int .u8 ((u8ofI x0).toNat:Int)]) (xs:=(([u8ofI G0,u8ofI x0]:List UInt8):List UInt8)) F1 L (Aq (cs:=[.int .u8 ((u8ofI G0).toNat:Int)]) (ds:=[.int .u8 ((u8ofI x0).toNat:Int)]) rfl (Aq (cs:=[.int .u8 ((u8ofI x0).toNat:Int)]) (ds:=[]) rfl (AM _ _)))
 refine AE 10 194559 329728 q0 rfl u0 (FV.bytesS (xs:=([u8ofI G0,u8ofI x0]:List UInt8)) Tryz.underlying46 Tryz.underlying9 Tryz.underlying5 rfl (Src.row (α:=UInt8) F1 .hd W2)) rfl<|Ah 11 196607 q0 rfl u0 (fun _=>FV.addS Y3 rfl rfl) rfl<|Ah 16 262143 q0 rfl u0 (fun _=>AW (vs:=[.string t0,vI s0]) (u:=.agg #[.string t0,vI s0,vN,vN,vN,.bool false]) (e2 rfl rfl) (fun w9=>by kernel_rfl)) rfl ?_
 obtain ⟨P4,j5⟩:=AJ F1 (.one (.tl .hd) (.one (.tl .hd) (.one (.tl .hd) (.one (.tl .hd) (.one (.tl .hd) (.one (.tl .hd) .done))))))
 have X6:=Tt Q2 (Tt P2 j5)
 exact c3 t2 _ _ ⟨rfl,rfl,rfl,rfl,rfl,rfl,rfl,trivial⟩ ⟨P4,X6⟩
 refine AU rfl ?_
 have h:=H5 _ h
 try dsimp only at h
 refine Aj<|Ae<|Af rfl<|Aa<|Ar ?_
 obtain ⟨A9,K6,G5⟩:=bind_in2 h
 refine Bc (α:=Nat × (List TUnit) × Value × (List Value)) (fun ⟨y1,M0,c0,R0⟩=>[(2,vP g0),(4,vP j0),(5,vP p0),(9,vI ((y1:Nat):Int))]) (fun ⟨y1,M0,c0,R0⟩ R1=>St w R1 [.row w.heap.size 96 (Rep.size TUnit) vN (([]:List TUnit).length) [],.row w.heap.size 96 (Rep.size TUnit) c0 M0.length R0,.cells p0 [vI (((a0.fh % (3:UInt8)).toNat:Nat):Int),vI (((a0.fc % (4:UInt8)).toNat:Nat):Int),vI (((a0.fe % (3:UInt8)).toNat:Nat):Int),c0] 58,.cells j0 [vI 0,vI 0,vI 0,vN] 58,.cells g0 [.int .u8 (a0.fh.toNat:Int),.int .u8 (a0.fc.toNat:Int),.int .u8 (a0.fe.toNat:Int),.int .u8 (a0.fu.toNat:Int),v0_4] 51]∧Tr P1 [.row w.heap.size 96 (Rep.size TUnit) vN (([]:List TUnit).length) [],.row w.heap.size 96 (Rep.size TUnit) d0 y0.length z0,.cells p0 [vI (((a0.fh % (3:UInt8)).toNat:Nat):Int),vI (((a0.fc % (4:UInt8)).toNat:Nat):Int),vI (((a0.fe % (3:UInt8)).toNat:Nat):Int),d0] 58,.cells j0 [vI 0,vI 0,vI 0,vN] 58,.cells g0 [.int .u8 (a0.fh.toNat:Int),.int .u8 (a0.fc.toNat:Int),.int .u8 (a0.fe.toNat:Int),.int .u8 (a0.fu.toNat:Int),v0_4] 51] R1 [.row w.heap.size 96 (Rep.size TUnit) vN (([]:List TUnit).length) [],.row w.heap.size 96 (Rep.size TUnit) c0 M0.length R0,.cells p0 [vI (((a0.fh % (3:UInt8)).toNat:Nat):Int),vI (((a0.fc % (4:UInt8)).toNat:Nat):Int),vI (((a0.fe % (3:UInt8)).toNat:Nat):Int),c0] 58,.cells j0 [vI 0,vI 0,vI 0,vN] 58,.cells g0 [.int .u8 (a0.fh.toNat:Int),.int .u8 (a0.fc.toNat:Int),.int .u8 (a0.fe.toNat:Int),.int .u8 (a0.fu.toNat:Int),v0_4] 51]∧Cells R1 (bl [.row w.heap.size 96 (Rep.size TUnit) vN (([]:List TUnit).length) [],.row w.heap.size 96 (Rep.size TUnit) c0 M0.length R0,.cells p0 [vI (((a0.fh % (3:UInt8)).toNat:Nat):Int),vI (((a0.fc % (4:UInt8)).toNat:Nat):Int),vI (((a0.fe % (3:UInt8)).toNat:Nat):Int),c0] 58,.cells j0 [vI 0,vI 0,vI 0,vN] 58,.cells g0 [.int .u8 (a0.fh.toNat:Int),.int .u8 (a0.fc.toNat:Int),.int .u8 (a0.fe.toNat:Int),.int .u8 (a0.fu.toNat:Int),v0_4] 51] ++ L) R0 M0) (fun ⟨y1,M0,c0,R0⟩=>(y1,M0)) (0,y0,d0,z0) K6 ⟨rfl,rfl,rfl,rfl,trivial⟩ ⟨J1,AP _ _,D3⟩ ?_
 rintro K8 ⟨y1,M0,c0,R0⟩ R1 q4 ⟨Z0,Q4,C3⟩ h
 unfold wardmoteref22_Draft_Roll_l2 at h
 try dsimp only at h
 refine Aj<|Ae<|Ac rfl<|Be 3 rfl<|Ab (AH rfl ((Z0.memA (.tl (.tl (.tl (.tl .hd))))) 3 _ rfl))<|Ab (FV.rem8 (a:=a0.fu) (b:=(2:UInt8)) rfl rfl (by decide)) ?_
 have v9:=(a0.fu % (2:UInt8)).toNat_lt
 refine Ab (FV.convN (i:=(a0.fu % (2:UInt8)).toNat) Tryz.underlying5 Tryz.underlying3 rfl (by omega))<|Ab (Bd (i:=y1) (j:=(a0.fu % (2:UInt8)).toNat) rfl rfl)<|Aa<|AO rfl h (fun c4 h=>?_) (fun c4 h=>?_)
 refine Ap<|Aj<|Ar<|dt 13 tb18_16 (fun b0 A1=>?_)
 refine Ah 0 1 b0 rfl A1 (fun _=>Bj 3 rfl) rfl<|AE 1 3 57344 b0 rfl A1 (AH rfl ((Z0.memA (.tl (.tl .hd))) 3 _ rfl)) rfl<|Ah 2 7 b0 rfl A1 (fun _=>Bj 0 rfl) rfl<|AE 3 15 63504 b0 rfl A1 (AH rfl ((Z0.memA (.tl (.tl .hd))) 0 _ rfl)) rfl<|Ah 5 47 b0 rfl A1 (fun _=>Bj 1 rfl) rfl<|AE 6 111 63616 b0 rfl A1 (AH rfl ((Z0.memA (.tl (.tl .hd))) 1 _ rfl)) rfl<|Ah 8 367 b0 rfl A1 (fun _=>Bj 2 rfl) rfl<|AE 9 879 64512 b0 rfl A1 (AH rfl ((Z0.memA (.tl (.tl .hd))) 2 _ rfl)) rfl ?_
 obtain ⟨A0,t1,h⟩:=bi h
 obtain ⟨B0,u1,h⟩:=bi h
 obtain ⟨C0,v1,h⟩:=bi h
 refine RD.meet (α:=Value × (List Value) × Value × (List Value) × Value × (List Value)) (fun ⟨H0,B1,I0,C1,J0,D1⟩=>[(2,vP g0),(4,vP j0),(5,vP p0),(9,vI ((y1:Nat):Int)),(97,c0),(100,J0),(103,I0),(106,H0)]) (fun ⟨H0,B1,I0,C1,J0,D1⟩ M1=>St w M1 [.row w.heap.size 3 (Rep.size Int) H0 C0.length B1,.row w.heap.size 3 (Rep.size Int) I0 B0.length C1,.row w.heap.size 3 (Rep.size Int) J0 A0.length D1,.row w.heap.size 96 (Rep.size TUnit) vN (([]:List TUnit).length) [],.row w.heap.size 96 (Rep.size TUnit) c0 M0.length R0,.cells p0 [vI (((a0.fh % (3:UInt8)).toNat:Nat):Int),vI (((a0.fc % (4:UInt8)).toNat:Nat):Int),vI (((a0.fe % (3:UInt8)).toNat:Nat):Int),c0] 58,.cells j0 [vI 0,vI 0,vI 0,vN] 58,.cells g0 [.int .u8 (a0.fh.toNat:Int),.int .u8 (a0.fc.toNat:Int),.int .u8 (a0.fe.toNat:Int),.int .u8 (a0.fu.toNat:Int),v0_4] 51]∧Tr R1 [.row w.heap.size 96 (Rep.size TUnit) vN (([]:List TUnit).length) [],.row w.heap.size 96 (Rep.size TUnit) c0 M0.length R0,.cells p0 [vI (((a0.fh % (3:UInt8)).toNat:Nat):Int),vI (((a0.fc % (4:UInt8)).toNat:Nat):Int),vI (((a0.fe % (3:UInt8)).toNat:Nat):Int),c0] 58,.cells j0 [vI 0,vI 0,vI 0,vN] 58,.cells g0 [.int .u8 (a0.fh.toNat:Int),.int .u8 (a0.fc.toNat:Int),.int .u8 (a0.fe.toNat:Int),.int .u8 (a0.fu.toNat:Int),v0_4] 51] M1 [.row w.heap.size 3 (Rep.size Int) H0 C0.length B1,.row w.heap.size 3 (Rep.size Int) I0 B0.length C1,.row w.heap.size 3 (Rep.size Int) J0 A0.length D1,.row w.heap.size 96 (Rep.size TUnit) vN (([]:List TUnit).length) [],.row w.heap.size 96 (Rep.size TUnit) c0 M0.length R0,.cells p0 [vI (((a0.fh % (3:UInt8)).toNat:Nat):Int),vI (((a0.fc % (4:UInt8)).toNat:Nat):Int),vI (((a0.fe % (3:UInt8)).toNat:Nat):Int),c0] 58,.cells j0 [vI 0,vI 0,vI 0,vN] 58,.cells g0 [.int .u8 (a0.fh.toNat:Int),.int .u8 (a0.fc.toNat:Int),.int .u8 (a0.fe.toNat:Int),.int .u8 (a0.fu.toNat:Int),v0_4] 51]∧Cells M1 (bl [.row w.heap.size 3 (Rep.size Int) H0 C0.length B1,.row w.heap.size 3 (Rep.size Int) I0 B0.length C1,.row w.heap.size 3 (Rep.size Int) J0 A0.length D1,.row w.heap.size 96 (Rep.size TUnit) vN (([]:List TUnit).length) [],.row w.heap.size 96 (Rep.size TUnit) c0 M0.length R0,.cells p0 [vI (((a0.fh % (3:UInt8)).toNat:Nat):Int),vI (((a0.fc % (4:UInt8)).toNat:Nat):Int),vI (((a0.fe % (3:UInt8)).toNat:Nat):Int),c0] 58,.cells j0 [vI 0,vI 0,vI 0,vN] 58,.cells g0 [.int .u8 (a0.fh.toNat:Int),.int .u8 (a0.fc.toNat:Int),.int .u8 (a0.fe.toNat:Int),.int .u8 (a0.fu.toNat:Int),v0_4] 51] ++ L) B1 (C0:List Int)∧Cells M1 (bl [.row w.heap.size 3 (Rep.size Int) H0 C0.length B1,.row w.heap.size 3 (Rep.size Int) I0 B0.length C1,.row w.heap.size 3 (Rep.size Int) J0 A0.length D1,.row w.heap.size 96 (Rep.size TUnit) vN (([]:List TUnit).length) [],.row w.heap.size 96 (Rep.size TUnit) c0 M0.length R0,.cells p0 [vI (((a0.fh % (3:UInt8)).toNat:Nat):Int),vI (((a0.fc % (4:UInt8)).toNat:Nat):Int),vI (((a0.fe % (3:UInt8)).toNat:Nat):Int),c0] 58,.cells j0 [vI 0,vI 0,vI 0,vN] 58,.cells g0 [.int .u8 (a0.fh.toNat:Int),.int .u8 (a0.fc.toNat:Int),.int .u8 (a0.fe.toNat:Int),.int .u8 (a0.fu.toNat:Int),v0_4] 51] ++ L) C1 (B0:List Int)∧Cells M1 (bl [.row w.heap.size 3 (Rep.size Int) H0 C0.length B1,.row w.heap.size 3 (Rep.size Int) I0 B0.length C1,.row w.heap.size 3 (Rep.size Int) J0 A0.length D1,.row w.heap.size 96 (Rep.size TUnit) vN (([]:List TUnit).length) [],.row w.heap.size 96 (Rep.size TUnit) c0 M0.length R0,.cells p0 [vI (((a0.fh % (3:UInt8)).toNat:Nat):Int),vI (((a0.fc % (4:UInt8)).toNat:Nat):Int),vI (((a0.fe % (3:UInt8)).toNat:Nat):Int),c0] 58,.cells j0 [vI 0,vI 0,vI 0,vN] 58,.cells g0 [.int .u8 (a0.fh.toNat:Int),.int .u8 (a0.fc.toNat:Int),.int .u8 (a0.fe.toNat:Int),.int .u8 (a0.fu.toNat:Int),v0_4] 51] ++ L) D1 (A0:List Int)) 5 2047 ?_ ?_
 rintro ⟨H0,B1,I0,C1,J0,D1⟩ M1 ⟨I1,R4,q5,s5,t5⟩
 try dsimp only
 obtain ⟨B8,V8,D5⟩:=St.rowV (α:=Int) I1 (.tl (.tl .hd))
 obtain ⟨C8,W8,E5⟩:=St.rowV (α:=Int) I1 (.tl .hd)
 obtain ⟨D8,X8,F5⟩:=St.rowV (α:=Int) I1 .hd
 refine Ah 11 4095 b0 rfl A1 (fun _=>AW (vs:=[.string ⟨#[115,101,97]⟩,.bool true,J0,I0,H0]) (u:=.agg #[.string ⟨#[115,101,97]⟩,vI 0,J0,I0,H0,.bool true]) (e5 rfl rfl rfl rfl rfl) (fun w9=>by rw [D5,E5,F5]; try kernel_rfl)) rfl ?_
 have Y6:=Bu (α:=Int) I1 (.tl (.tl .hd)) t5 hL
 have U1:=St.delS I1 (.tl (.tl .hd))
 have E2:=St.delT I1 (.tl (.tl .hd))
 have U3:=Rep.at_ (α:=Int) (v:=J0) (xs:=A0) U1 L Y6
 have J5:=AF s5 E2
 have Z6:=Bu (α:=Int) U1 (.tl .hd) J5 hL
 have V1:=St.delS U1 (.tl .hd)
 have F2:=St.delT U1 (.tl .hd)
 have V3:=Rep.at_ (α:=Int) (v:=I0) (xs:=B0) V1 L Z6
 have K5:=AF q5 (Tt E2 F2)
 have b7:=Bu (α:=Int) V1 .hd K5 hL
 have d3:=St.delS V1 .hd
 have Y1:=St.delT V1 .hd
 have W3:=Rep.at_ (α:=Int) (v:=H0) (xs:=C0) d3 L b7
 have M5:=Ay U3 (Tt F2 Y1)
 have P5:=Ay V3 Y1
 obtain ⟨E8,Y8,E7,_⟩:=Rep.sl M5
 obtain ⟨F8,Z8,F7,_⟩:=Rep.sl P5
 obtain ⟨G8,b9,G7,_⟩:=Rep.sl W3
 refine RD.nu 12 8191 b0 rfl .plain rfl (AV (α:=TUnit) (xs:=([(⟨⟨#[115,101,97]⟩,(0:Int),A0,B0,C0,true⟩:TUnit)]:List TUnit)) (vs:=[.agg #[.string ⟨#[115,101,97]⟩,vI 0,J0,I0,H0,.bool true]]) (ds' :=[.string ⟨#[115,101,97]⟩,vI 0,J0,I0,H0,.bool true]) rfl d3 el56 rfl (e1 rfl) (by rw [E7,F7,G7]; try kernel_rfl) rfl) (fun G9 Q8 u2 G2=>?_)
 have F3:=Tt F2 (Tt Y1 G2)
 have Q5:=Ay U3 F3
 have R5:=Ay V3 (Tt Y1 G2)
 have U5:=Ay W3 G2
 have u5:=AB (cs:=[.string ⟨#[115,101,97]⟩,vI 0,J0,I0,H0,.bool true]) (xs:=(([(⟨⟨#[115,101,97]⟩,(0:Int),A0,B0,C0,true⟩:TUnit)]:List TUnit):List TUnit)) u2 L (Aq (cs:=[.string ⟨#[115,101,97]⟩,vI 0,J0,I0,H0,.bool true]) (ds:=[]) (mk_TUnit ⟨#[115,101,97]⟩ (0:Int) A0 Q5 B0 R5 C0 U5 true) (AM _ _))
 obtain ⟨y8,K7,h⟩:=bi h
 have G3:=Tt R4 (Tt E2 F3)
 have V5:=AF C3 G3
 refine BB (i:=13) (rk b0) (RO.doesL (m' :=16383) (sk b0) rfl rfl .plain rfl (DoesL.app (α:=TUnit) (ys:=([(⟨⟨#[115,101,97]⟩,(0:Int),A0,B0,C0,true⟩:TUnit)]:List TUnit)) K7 u2 (fun _ _=>(.tl (.tl .hd))) el56 rfl rfl V5 (Src.row (α:=TUnit) u2 .hd u5)) (fun X2 H9 ⟨j4,v2,U4,v5⟩=>?_))
 refine BB (i:=14) (rk b0) (RO.val (m' :=32767) (sk b0) rfl .plain rfl (Bj 3 rfl) ?_)
 refine By 15 65535 b0 rfl rfl .plain (Bz (j:=3) (old:=[vI (((a0.fh % (3:UInt8)).toNat:Nat):Int),vI (((a0.fc % (4:UInt8)).toNat:Nat):Int),vI (((a0.fe % (3:UInt8)).toNat:Nat):Int),c0]) (news:=[X2]) (new' :=[vI (((a0.fh % (3:UInt8)).toNat:Nat):Int),vI (((a0.fc % (4:UInt8)).toNat:Nat):Int),vI (((a0.fe % (3:UInt8)).toNat:Nat):Int),X2]) v2 (.tl (.tl (.tl .hd))) rfl rfl rfl (St.c1 (α:=TUnit) v2 (.tl (.tl .hd))) rfl rfl (o1 (St.o1 (α:=TUnit) v2 (.tl (.tl .hd)))) rfl) (fun I9 u4 s3=>?_)
 refine AK (dk b0)<|Av<|Am<|Ac rfl<|Ab (Bi (i:=y1) (j:=1) rfl rfl (by omega))<|Af rfl<|Aa ?_
 obtain ⟨v4,t3⟩:=AJ u4 (.one (.tl .hd) (.one (.tl .hd) (.one (.tl .hd) (.one (.tl .hd) (.one (.tl .hd) .done)))))
 have W5:=AF v5 (Tt s3 t3)
 have Q6:=Tt G3 (Tt U4 (Tt s3 t3))
 exact q4 (y1 + 1,y8,X2,j4) _ _ ⟨rfl,rfl,rfl,rfl,trivial⟩ ⟨v4,(Tt Q4 Q6),W5⟩ h
 intro H1
 refine RD.each [4,7,10] (rk b0) ⟨?_,?_,?_,trivial⟩
 refine RO.new (m' :=895) (sk b0) rfl .plain rfl (Does.mk (α:=Int) t1 Z0 el52 rfl) (fun g2 d1 D0 X0=>?_)
 have p1:=AB (cs:=(List.replicate (((a0.fh % (3:UInt8)).toNat:Nat):Int).toNat [vI 0]).flatten) (xs:=A0) D0 L (Cells.mk t1 rfl)
 refine RD.each [7,10] (rk b0) ⟨?_,?_,trivial⟩
 refine RO.new (m' :=1023) (sk b0) rfl .plain rfl (Does.mk (α:=Int) u1 D0 el52 rfl) (fun j2 g1 E0 U0=>?_)
 have q1:=AB (cs:=(List.replicate (((a0.fc % (4:UInt8)).toNat:Nat):Int).toNat [vI 0]).flatten) (xs:=B0) E0 L (Cells.mk u1 rfl)
 refine RD.nu 10 2047 b0 rfl .plain rfl (Does.mk (α:=Int) v1 E0 el52 rfl) (fun k2 j1 F0 V0=>?_)
 have s1:=AB (cs:=(List.replicate (((a0.fe % (3:UInt8)).toNat:Nat):Int).toNat [vI 0]).flatten) (xs:=C0) F0 L (Cells.mk v1 rfl)
 have X5:=AF q1 V0
 have Y5:=AF p1 (Tt U0 V0)
 have R6:=Tt X0 (Tt U0 V0)
 exact H1 ((.slice (some ⟨j1,0,none⟩) (((a0.fe % (3:UInt8)).toNat:Nat):Int).toNat (((a0.fe % (3:UInt8)).toNat:Nat):Int).toNat),(List.replicate (((a0.fe % (3:UInt8)).toNat:Nat):Int).toNat [vI 0]).flatten,(.slice (some ⟨g1,0,none⟩) (((a0.fc % (4:UInt8)).toNat:Nat):Int).toNat (((a0.fc % (4:UInt8)).toNat:Nat):Int).toNat),(List.replicate (((a0.fc % (4:UInt8)).toNat:Nat):Int).toNat [vI 0]).flatten,(.slice (some ⟨d1,0,none⟩) (((a0.fh % (3:UInt8)).toNat:Nat):Int).toNat (((a0.fh % (3:UInt8)).toNat:Nat):Int).toNat),(List.replicate (((a0.fh % (3:UInt8)).toNat:Nat):Int).toNat [vI 0]).flatten) _ _ ⟨rfl,rfl,rfl,rfl,rfl,rfl,rfl,rfl,trivial⟩ ⟨F0,R6,s1,X5,Y5⟩
 refine RO.new (m' :=1919) (sk b0) rfl .plain rfl (Does.mk (α:=Int) v1 D0 el52 rfl) (fun k2 j1 F0 V0=>?_)
 have s1:=AB (cs:=(List.replicate (((a0.fe % (3:UInt8)).toNat:Nat):Int).toNat [vI 0]).flatten) (xs:=C0) F0 L (Cells.mk v1 rfl)
 refine RD.nu 7 2047 b0 rfl .plain rfl (Does.mk (α:=Int) u1 F0 el52 rfl) (fun j2 g1 E0 U0=>?_)
 have q1:=AB (cs:=(List.replicate (((a0.fc % (4:UInt8)).toNat:Nat):Int).toNat [vI 0]).flatten) (xs:=B0) E0 L (Cells.mk u1 rfl)
 obtain ⟨x4,H2⟩:=AJ E0 (.one (.tl .hd) (.one .hd (.one .hd (.one .hd (.one .hd (.one .hd (.one .hd (.one .hd .done))))))))
 have Z5:=AF s1 (Tt U0 H2)
 have b6:=AF q1 H2
 have H3:=Tt V0 (Tt U0 H2)
 have c6:=AF p1 H3
 exact H1 ((.slice (some ⟨j1,0,none⟩) (((a0.fe % (3:UInt8)).toNat:Nat):Int).toNat (((a0.fe % (3:UInt8)).toNat:Nat):Int).toNat),(List.replicate (((a0.fe % (3:UInt8)).toNat:Nat):Int).toNat [vI 0]).flatten,(.slice (some ⟨g1,0,none⟩) (((a0.fc % (4:UInt8)).toNat:Nat):Int).toNat (((a0.fc % (4:UInt8)).toNat:Nat):Int).toNat),(List.replicate (((a0.fc % (4:UInt8)).toNat:Nat):Int).toNat [vI 0]).flatten,(.slice (some ⟨d1,0,none⟩) (((a0.fh % (3:UInt8)).toNat:Nat):Int).toNat (((a0.fh % (3:UInt8)).toNat:Nat):Int).toNat),(List.replicate (((a0.fh % (3:UInt8)).toNat:Nat):Int).toNat [vI 0]).flatten) _ _ ⟨rfl,rfl,rfl,rfl,rfl,rfl,rfl,rfl,trivial⟩ ⟨x4,(Tt X0 H3),Z5,b6,c6⟩
 refine RO.new (m' :=1007) (sk b0) rfl .plain rfl (Does.mk (α:=Int) u1 Z0 el52 rfl) (fun j2 g1 E0 U0=>?_)
 have q1:=AB (cs:=(List.replicate (((a0.fc % (4:UInt8)).toNat:Nat):Int).toNat [vI 0]).flatten) (xs:=B0) E0 L (Cells.mk u1 rfl)
 refine RD.each [4,10] (rk b0) ⟨?_,?_,trivial⟩
 refine RO.new (m' :=1023) (sk b0) rfl .plain rfl (Does.mk (α:=Int) t1 E0 el52 rfl) (fun g2 d1 D0 X0=>?_)
 have p1:=AB (cs:=(List.replicate (((a0.fh % (3:UInt8)).toNat:Nat):Int).toNat [vI 0]).flatten) (xs:=A0) D0 L (Cells.mk t1 rfl)
 refine RD.nu 10 2047 b0 rfl .plain rfl (Does.mk (α:=Int) v1 D0 el52 rfl) (fun k2 j1 F0 V0=>?_)
 have s1:=AB (cs:=(List.replicate (((a0.fe % (3:UInt8)).toNat:Nat):Int).toNat [vI 0]).flatten) (xs:=C0) F0 L (Cells.mk v1 rfl)
 obtain ⟨y4,I2⟩:=AJ F0 (.one .hd (.one (.tl .hd) (.one .hd (.one .hd (.one .hd (.one .hd (.one .hd (.one .hd .done))))))))
 have d6:=AF s1 I2
 have I3:=Tt X0 (Tt V0 I2)
 have g6:=AF q1 I3
 have j6:=AF p1 (Tt V0 I2)
 exact H1 ((.slice (some ⟨j1,0,none⟩) (((a0.fe % (3:UInt8)).toNat:Nat):Int).toNat (((a0.fe % (3:UInt8)).toNat:Nat):Int).toNat),(List.replicate (((a0.fe % (3:UInt8)).toNat:Nat):Int).toNat [vI 0]).flatten,(.slice (some ⟨g1,0,none⟩) (((a0.fc % (4:UInt8)).toNat:Nat):Int).toNat (((a0.fc % (4:UInt8)).toNat:Nat):Int).toNat),(List.replicate (((a0.fc % (4:UInt8)).toNat:Nat):Int).toNat [vI 0]).flatten,(.slice (some ⟨d1,0,none⟩) (((a0.fh % (3:UInt8)).toNat:Nat):Int).toNat (((a0.fh % (3:UInt8)).toNat:Nat):Int).toNat),(List.replicate (((a0.fh % (3:UInt8)).toNat:Nat):Int).toNat [vI 0]).flatten) _ _ ⟨rfl,rfl,rfl,rfl,rfl,rfl,rfl,rfl,trivial⟩ ⟨y4,(Tt U0 I3),d6,g6,j6⟩
 refine RO.new (m' :=2031) (sk b0) rfl .plain rfl (Does.mk (α:=Int) v1 E0 el52 rfl) (fun k2 j1 F0 V0=>?_)
 have s1:=AB (cs:=(List.replicate (((a0.fe % (3:UInt8)).toNat:Nat):Int).toNat [vI 0]).flatten) (xs:=C0) F0 L (Cells.mk v1 rfl)
 refine RD.nu 4 2047 b0 rfl .plain rfl (Does.mk (α:=Int) t1 F0 el52 rfl) (fun g2 d1 D0 X0=>?_)
 have p1:=AB (cs:=(List.replicate (((a0.fh % (3:UInt8)).toNat:Nat):Int).toNat [vI 0]).flatten) (xs:=A0) D0 L (Cells.mk t1 rfl)
 obtain ⟨z4,J2⟩:=AJ D0 (.one (.tl .hd) (.one (.tl .hd) (.one .hd (.one .hd (.one .hd (.one .hd (.one .hd (.one .hd .done))))))))
 have k6:=AF s1 (Tt X0 J2)
 have J3:=Tt V0 (Tt X0 J2)
 have p6:=AF q1 J3
 have q6:=AF p1 J2
 exact H1 ((.slice (some ⟨j1,0,none⟩) (((a0.fe % (3:UInt8)).toNat:Nat):Int).toNat (((a0.fe % (3:UInt8)).toNat:Nat):Int).toNat),(List.replicate (((a0.fe % (3:UInt8)).toNat:Nat):Int).toNat [vI 0]).flatten,(.slice (some ⟨g1,0,none⟩) (((a0.fc % (4:UInt8)).toNat:Nat):Int).toNat (((a0.fc % (4:UInt8)).toNat:Nat):Int).toNat),(List.replicate (((a0.fc % (4:UInt8)).toNat:Nat):Int).toNat [vI 0]).flatten,(.slice (some ⟨d1,0,none⟩) (((a0.fh % (3:UInt8)).toNat:Nat):Int).toNat (((a0.fh % (3:UInt8)).toNat:Nat):Int).toNat),(List.replicate (((a0.fh % (3:UInt8)).toNat:Nat):Int).toNat [vI 0]).flatten) _ _ ⟨rfl,rfl,rfl,rfl,rfl,rfl,rfl,rfl,trivial⟩ ⟨z4,(Tt U0 J3),k6,p6,q6⟩
 refine RO.new (m' :=1903) (sk b0) rfl .plain rfl (Does.mk (α:=Int) v1 Z0 el52 rfl) (fun k2 j1 F0 V0=>?_)
 have s1:=AB (cs:=(List.replicate (((a0.fe % (3:UInt8)).toNat:Nat):Int).toNat [vI 0]).flatten) (xs:=C0) F0 L (Cells.mk v1 rfl)
 refine RD.each [4,7] (rk b0) ⟨?_,?_,trivial⟩
 refine RO.new (m' :=1919) (sk b0) rfl .plain rfl (Does.mk (α:=Int) t1 F0 el52 rfl) (fun g2 d1 D0 X0=>?_)
 have p1:=AB (cs:=(List.replicate (((a0.fh % (3:UInt8)).toNat:Nat):Int).toNat [vI 0]).flatten) (xs:=A0) D0 L (Cells.mk t1 rfl)
 refine RD.nu 7 2047 b0 rfl .plain rfl (Does.mk (α:=Int) u1 D0 el52 rfl) (fun j2 g1 E0 U0=>?_)
 have q1:=AB (cs:=(List.replicate (((a0.fc % (4:UInt8)).toNat:Nat):Int).toNat [vI 0]).flatten) (xs:=B0) E0 L (Cells.mk u1 rfl)
 obtain ⟨A4,K2⟩:=AJ E0 (.one (.tl (.tl .hd)) (.one .hd (.one .hd (.one .hd (.one .hd (.one .hd (.one .hd (.one .hd .done))))))))
 have K3:=Tt X0 (Tt U0 K2)
 have s6:=AF s1 K3
 have t6:=AF q1 K2
 have u6:=AF p1 (Tt U0 K2)
 exact H1 ((.slice (some ⟨j1,0,none⟩) (((a0.fe % (3:UInt8)).toNat:Nat):Int).toNat (((a0.fe % (3:UInt8)).toNat:Nat):Int).toNat),(List.replicate (((a0.fe % (3:UInt8)).toNat:Nat):Int).toNat [vI 0]).flatten,(.slice (some ⟨g1,0,none⟩) (((a0.fc % (4:UInt8)).toNat:Nat):Int).toNat (((a0.fc % (4:UInt8)).toNat:Nat):Int).toNat),(List.replicate (((a0.fc % (4:UInt8)).toNat:Nat):Int).toNat [vI 0]).flatten,(.slice (some ⟨d1,0,none⟩) (((a0.fh % (3:UInt8)).toNat:Nat):Int).toNat (((a0.fh % (3:UInt8)).toNat:Nat):Int).toNat),(List.replicate (((a0.fh % (3:UInt8)).toNat:Nat):Int).toNat [vI 0]).flatten) _ _ ⟨rfl,rfl,rfl,rfl,rfl,rfl,rfl,rfl,trivial⟩ ⟨A4,(Tt V0 K3),s6,t6,u6⟩
 refine RO.new (m' :=2031) (sk b0) rfl .plain rfl (Does.mk (α:=Int) u1 F0 el52 rfl) (fun j2 g1 E0 U0=>?_)
 have q1:=AB (cs:=(List.replicate (((a0.fc % (4:UInt8)).toNat:Nat):Int).toNat [vI 0]).flatten) (xs:=B0) E0 L (Cells.mk u1 rfl)
 refine RD.nu 4 2047 b0 rfl .plain rfl (Does.mk (α:=Int) t1 E0 el52 rfl) (fun g2 d1 D0 X0=>?_)
 have p1:=AB (cs:=(List.replicate (((a0.fh % (3:UInt8)).toNat:Nat):Int).toNat [vI 0]).flatten) (xs:=A0) D0 L (Cells.mk t1 rfl)
 obtain ⟨B4,M2⟩:=AJ D0 (.one (.tl (.tl .hd)) (.one (.tl .hd) (.one .hd (.one .hd (.one .hd (.one .hd (.one .hd (.one .hd .done))))))))
 have M3:=Tt U0 (Tt X0 M2)
 have v6:=AF s1 M3
 have x6:=AF q1 (Tt X0 M2)
 have y6:=AF p1 M2
 exact H1 ((.slice (some ⟨j1,0,none⟩) (((a0.fe % (3:UInt8)).toNat:Nat):Int).toNat (((a0.fe % (3:UInt8)).toNat:Nat):Int).toNat),(List.replicate (((a0.fe % (3:UInt8)).toNat:Nat):Int).toNat [vI 0]).flatten,(.slice (some ⟨g1,0,none⟩) (((a0.fc % (4:UInt8)).toNat:Nat):Int).toNat (((a0.fc % (4:UInt8)).toNat:Nat):Int).toNat),(List.replicate (((a0.fc % (4:UInt8)).toNat:Nat):Int).toNat [vI 0]).flatten,(.slice (some ⟨d1,0,none⟩) (((a0.fh % (3:UInt8)).toNat:Nat):Int).toNat (((a0.fh % (3:UInt8)).toNat:Nat):Int).toNat),(List.replicate (((a0.fh % (3:UInt8)).toNat:Nat):Int).toNat [vI 0]).flatten) _ _ ⟨rfl,rfl,rfl,rfl,rfl,rfl,rfl,rfl,trivial⟩ ⟨B4,(Tt V0 M3),v6,x6,y6⟩
 refine AU rfl ?_
 have h:=G5 _ h
 try dsimp only at h
 refine Ae<|Ab (AG rfl (Z0.memA (.tl (.tl .hd))))<|AY [vI (((a0.fh % (3:UInt8)).toNat:Nat):Int),vI (((a0.fc % (4:UInt8)).toNat:Nat):Int),vI (((a0.fe % (3:UInt8)).toNat:Nat):Int),c0] Z0 (.tl (.tl (.tl .hd))) (o4 rfl rfl rfl (St.o1 (α:=TUnit) Z0 (.tl .hd))) (fun J9 x2 V4=>?_)
 refine Aa<|Ak rfl ?_
 have z6:=AF C3 V4
 have c7:=Bu (α:=TUnit) x2 (.tl .hd) z6 hL
 have W1:=St.delS x2 (.tl .hd)
 have j9:=St.delT x2 (.tl .hd)
 have d7:=Rep.at_ (α:=TUnit) (v:=c0) (xs:=M0) W1 L c7
 refine Ao hb0 Tryz.func18 rfl (.cons (.many (cs:=[vI (((a0.fh % (3:UInt8)).toNat:Nat):Int),vI (((a0.fc % (4:UInt8)).toNat:Nat):Int),vI (((a0.fe % (3:UInt8)).toNat:Nat):Int),c0]) (by kernel_rfl) rfl (W1.memA (.tl (.tl .hd)))) .nil) rfl ?_
 cases h
 exact ⟨W1.ag,fun w9 hw9=>⟨c0,rfl,W1.kd d7 hw9⟩⟩
def tb111_1:List (Nat × Nat × Nat):=[(0,32,4),(1,64,32),(0,128,8),(4,256,128),(10,512,320),(0,1024,8),(32,2048,1024),(0,4096,4),(128,8192,4096),(336,16384,10240),(528,32768,16896),(2047,16,32768)]
def share_Ratio_Cmp_p (n:Nat) (a0:TRatio) (a1:TRatio):Option Int:=
  (wide_Long_Times_p n a0.fx a1.ft).bind fun b0=>(wide_Long_Times_p n a1.fx a0.ft).bind fun c0=>(wide_Long_Cmp_p n b0 c0).bind fun d0=>some d0
theorem share_Ratio_Cmp_c (n:Nat) (L:List Nat) (w:World) (hL:∀ b ∈ L,b < w.heap.size) (a0:TRatio) {v0_1:Value} (h0_1:Rep.R w L [v0_1] a0.fx.fm) {v0_3:Value} (h0_3:Rep.R w L [v0_3] a0.ft.fm) (a1:TRatio) {v1_1:Value} (h1_1:Rep.R w L [v1_1] a1.fx.fm) {v1_3:Value} (h1_3:Rep.R w L [v1_3] a1.ft.fm)  {r:Int} (h:share_Ratio_Cmp_p n a0 a1 = some r) :
    Calls Tryz.prog 111 #[.agg #[.bool a0.fx.fj,v0_1,.bool a0.ft.fj,v0_3],.agg #[.bool a1.fx.fj,v1_1,.bool a1.ft.fj,v1_3]] w (Gives w fun _ u=>u = vI r):=by
 unfold share_Ratio_Cmp_p at h
 have hS0:=AA w
 refine AC Tryz.func111 rfl rfl rfl (fun _ cs0 hb0=>?_)
 refine Ae<|Al .plain rfl (Ax hS0 rfl rfl) (fun P0 D0 k0 F0=>?_)
 refine Al .plain rfl (Ax k0 rfl rfl) (fun Q0 E0 d0 G0=>?_)
 refine Af rfl<|Aa<|Aj<|dt 12 tb111_1 (fun b0 c0=>?_)
 refine Ah 0 1 b0 rfl c0 (fun _=>Bj 0 rfl) rfl<|AE 1 3 3600 b0 rfl c0 (Bp (cs:=[.bool a0.fx.fj,v0_1]) (by kernel_rfl) rfl (mem_part (d0.memA (.tl .hd)) 0 2)) rfl<|Ah 2 7 b0 rfl c0 (fun _=>Bj 2 rfl) rfl<|AE 3 15 3600 b0 rfl c0 (Bp (cs:=[.bool a1.ft.fj,v1_3]) (by kernel_rfl) rfl (mem_part (d0.memA .hd) 2 2)) rfl<|Ah 5 47 b0 rfl c0 (fun _=>Bj 0 rfl) rfl<|AE 6 111 3584 b0 rfl c0 (Bp (cs:=[.bool a1.fx.fj,v1_1]) (by kernel_rfl) rfl (mem_part (d0.memA .hd) 0 2)) rfl<|Ah 7 239 b0 rfl c0 (fun _=>Bj 2 rfl) rfl<|AE 8 495 3584 b0 rfl c0 (Bp (cs:=[.bool a0.ft.fj,v0_3]) (by kernel_rfl) rfl (mem_part (d0.memA (.tl .hd)) 2 2)) rfl ?_
 obtain ⟨A0,x0,h⟩:=bi h
 refine BC 4 511 b0 rfl .plain body102 rfl (e2 rfl rfl) (fun w9 hw9=>wide_Long_Times_c n _ w9 (d0.hL hL hw9) a0.fx (d0.km h0_1 hw9) a1.ft (d0.km h1_3 hw9) x0) rfl (fun R0 K0 q0 ⟨I0,hu_,u0⟩=>?_)
 subst hu_
 obtain ⟨g0,H0⟩:=d0.agr q0
 obtain ⟨B0,y0,h⟩:=bi h
 refine BC 9 1023 b0 rfl .plain body102 rfl (e2 rfl rfl) (fun w9 hw9=>wide_Long_Times_c n _ w9 (g0.hL hL hw9) a1.fx (g0.km h1_1 hw9) a0.ft (g0.km h0_3 hw9) y0) rfl (fun U0 M0 s0 ⟨J0,hu_,v0⟩=>?_)
 subst hu_
 obtain ⟨j0,p0⟩:=g0.agr s0
 obtain ⟨C0,z0,h⟩:=bi h
 have t0:=Ay u0 p0
 refine RD.cq 10 2047 2048 (vI C0) b0 rfl c0 body149 rfl (e2 rfl rfl) (fun w9 hw9=>wide_Long_Cmp_c n _ w9 (j0.hL0 hL hw9) A0 (j0.kd t0 hw9) B0 (j0.kd v0 hw9) z0) rfl<|Ah 11 4095 b0 rfl c0 (fun _=>AX rfl) rfl<|AK (dk b0)<|Ak rfl<|AQ hb0 Tryz.func111 rfl rfl ?_
 cases h
 exact j0.gv
def tb110_4:List (Nat × Nat × Nat):=[(0,32768,4),(0,65536,8),(2,131072,65536),(0,262144,16),(12,524288,262144),(21,1048576,688128),(63,64,1048576),(127,128,0)]
theorem body110:bodyB Tryz.prog 110 = true:=by kernel_rfl
theorem body111:bodyB Tryz.prog 111 = true:=by kernel_rfl
def share_Cmp_p (n:Nat) (a0:TShare) (a1:TShare):Option (Int × Int):=
  (share_valid_p n ([a0,a1]:List TShare)).bind fun b0=>(if b0 = true then (share_Read_p n a0).bind fun c0=>(share_Read_p n a1).bind fun d0=>(share_Ratio_Cmp_p n c0 d0).bind fun g0=>some (g0,(0:Int)) else some ((0:Int),(20:Int)))
theorem share_Cmp_c (n:Nat) (L:List Nat) (w:World) (hL:∀ b ∈ L,b < w.heap.size) (a0:TShare) (a1:TShare)  {r:Int × Int} (h:share_Cmp_p n a0 a1 = some r) :
    Calls Tryz.prog 71 #[.agg ((cs_TShare a0)).toArray,.agg ((cs_TShare a1)).toArray] w (Gives w fun _ u=>u = .tuple #[vI r.1,vI r.2]):=by
 unfold share_Cmp_p at h
 have hS0:=AA w
 refine AC Tryz.func71 rfl rfl rfl (fun _ cs0 hb0=>?_)
 refine Ae<|Al .plain rfl (Ax hS0 rfl rfl) (fun x1 R0 v0 Z0=>?_)
 refine Al .plain rfl (Ax v0 rfl rfl) (fun y1 U0 j0 b1=>?_)
 refine Af rfl<|Af rfl<|Aa<|Ae<|Ab (AG rfl (j0.memA (.tl .hd)))<|Ab (AG rfl (j0.memA .hd))<|Br (fst:=[]) (cap:=[]) (vs:=[.agg ((cs_TShare a0)).toArray,.agg ((cs_TShare a1)).toArray,.func (.func 111) #[] #[]]) .plain body110 Tryz.func110 rfl rfl rfl rfl (e3 rfl rfl rfl) rfl (fun Y0 s0 k1=>?_)
 refine Ae<|Al .plain rfl (Ax j0 rfl rfl) (fun z1 V0 x0 c1=>?_)
 refine Al .plain rfl (Ax x0 rfl rfl) (fun A1 W0 k0 d1=>?_)
 refine Af rfl<|Af rfl<|Aa<|Aj<|Ae<|Ab (AG rfl (k0.memA (.tl .hd)))<|Ab (AG rfl (k0.memA .hd))<|Al .plain rfl (AV (α:=TShare) (xs:=([a0,a1]:List TShare)) (vs:=[.agg ((cs_TShare a0)).toArray,.agg ((cs_TShare a1)).toArray]) (ds' :=(cs_TShare a0 ++ cs_TShare a1)) rfl k0 el60 rfl (e2 rfl rfl) (by kernel_rfl) rfl) (fun B1 X0 c0 g1=>?_)
 have A0:=AB (cs:=(cs_TShare a0 ++ cs_TShare a1)) (xs:=(([a0,a1]:List TShare):List TShare)) c0 L (Aq (cs:=(cs_TShare a0)) (ds:=(cs_TShare a1)) (mk_TShare a0.fN a0.fD) (Aq (cs:=(cs_TShare a1)) (ds:=[]) (mk_TShare a1.fN a1.fD) (AM _ _)))
 obtain ⟨M0,H0,h⟩:=bi h
 refine Bb (.bool M0) body99 rfl (e1 rfl) (fun w9 hw9=>share_valid_c n _ w9 (c0.hL0 hL hw9) ([a0,a1]:List TShare) (Aw (St.lend (α:=TShare) (L:=L) c0 .hd A0 hL) hw9) H0) rfl<|Ab (Bv rfl)<|Aa<|MX.ifnb rfl h (fun u0 h=>?_) (fun u0 h=>?_)
 refine Ap<|Aj<|dt 8 tb110_4 (fun b0 g0=>?_)
 refine Ah 0 1 b0 rfl g0 (fun _=>Ai rfl) rfl<|AE 1 3 244 b0 rfl g0 (AG rfl (c0.memA (.tl (.tl .hd)))) rfl<|AE 3 11 240 b0 rfl g0 (AG rfl (c0.memA (.tl .hd))) rfl ?_
 obtain ⟨P0,I0,h⟩:=bi h
 refine BC 2 15 b0 rfl .plain body100 rfl (e1 rfl) (fun w9 hw9=>share_Read_c n _ w9 (c0.hL hL hw9) a0 I0) rfl (fun C1 u1 y0 ⟨p1,q1,hu_,D0,E0⟩=>?_)
 subst hu_
 obtain ⟨p0,j1⟩:=c0.agr y0
 obtain ⟨Q0,J0,h⟩:=bi h
 refine BC 4 31 b0 rfl .plain body100 rfl (e1 rfl) (fun w9 hw9=>share_Read_c n _ w9 (p0.hL hL hw9) a1 J0) rfl (fun D1 v1 z0 ⟨s1,t1,hu_,F0,G0⟩=>?_)
 subst hu_
 obtain ⟨d0,q0⟩:=p0.agr z0
 obtain ⟨t0,K0,h⟩:=bi h
 have B0:=Ay D0 q0
 have C0:=Ay E0 q0
 refine RD.cq 5 63 192 (vI t0) b0 rfl g0 body111 rfl (e2 rfl rfl) (fun w9 hw9=>share_Ratio_Cmp_c n _ w9 (d0.hL0 hL hw9) P0 (d0.kd B0 hw9) (d0.kd C0 hw9) Q0 (d0.kd F0 hw9) (d0.kd G0 hw9) K0) rfl<|Ah 6 127 b0 rfl g0 (fun _=>AX rfl) rfl<|Ah 7 255 b0 rfl g0 (fun _=>AX rfl) rfl<|AK (dk b0)<|Ak rfl<|Ao (u:=.tuple #[vI t0,vI 0]) s0 Tryz.func110 rfl (.cons (.tmp rfl) (.cons (.tmp rfl) .nil)) rfl<|Ab (Ag rfl rfl)<|Ab (Ag rfl rfl)<|Af rfl<|Af rfl<|Aa<|Ak rfl<|Ao hb0 Tryz.func71 rfl (.cons (.tmp rfl) (.cons (.tmp rfl) .nil)) rfl ?_
 cases h
 exact d0.gv
 refine Ae<|Af rfl<|Aa<|Ae<|Ac rfl<|Af rfl<|Af rfl<|Aa<|Ak rfl<|Ao (u:=.tuple #[vI 0,vI 20]) s0 Tryz.func110 rfl (.cons (.tmp rfl) (.cons (.tmp rfl) .nil)) rfl<|Ab (Ag rfl rfl)<|Ab (Ag rfl rfl)<|Af rfl<|Af rfl<|Aa<|Ak rfl<|Ao hb0 Tryz.func71 rfl (.cons (.tmp rfl) (.cons (.tmp rfl) .nil)) rfl ?_
 cases h
 exact c0.gv
theorem body71:bodyB Tryz.prog 71 = true:=by kernel_rfl
def wardmotelaw27_atMost_p (n:Nat) (a0:TShare) (a1:TShare):Option Bool:=
  (share_Cmp_p n a0 a1).bind fun b0=>(if b0.2 = 0 then some (decide (b0.1 ≤ 0)) else some false)
theorem wardmotelaw27_atMost_c (n:Nat) (L:List Nat) (w:World) (hL:∀ b ∈ L,b < w.heap.size) (a0:TShare) (a1:TShare)  {r:Bool} (h:wardmotelaw27_atMost_p n a0 a1 = some r) :
    Calls Tryz.prog 26 #[.agg ((cs_TShare a0)).toArray,.agg ((cs_TShare a1)).toArray] w (Gives w fun _ u=>u = .bool r):=by
 unfold wardmotelaw27_atMost_p at h
 have hS0:=AA w
 refine AC Tryz.func26 rfl rfl rfl (fun _ cs0 hb0=>?_)
 refine Ae<|Al .plain rfl (Ax hS0 rfl rfl) (fun t0 k0 g0 q0=>?_)
 refine Al .plain rfl (Ax g0 rfl rfl) (fun u0 p0 b0 s0=>?_)
 refine Af rfl<|Aa<|Ae<|Ab (AG rfl (b0.memA (.tl .hd)))<|Ab (AG rfl (b0.memA .hd)) ?_
 obtain ⟨c0,j0,h⟩:=bi h
 refine Bb (.tuple #[vI c0.1,vI c0.2]) body71 rfl (e2 rfl rfl) (fun w9 hw9=>share_Cmp_c n _ w9 (b0.hL0 hL hw9) a0 a1 j0) rfl<|Ac rfl<|Ab (Ag rfl rfl)<|Ab (Ag rfl rfl)<|Af rfl<|Af rfl<|Aa<|Ae<|Ac rfl<|Ab (FV.eql (i:=c0.2) (j:=0) rfl rfl)<|Ac rfl<|RG.ifd (s:=15) rfl h (fun d0 h=>?_) (fun d0 h=>?_)
 refine AN (Ai rfl)<|AN (FV.leq (i:=c0.1) (j:=0) rfl rfl)<|Bx rfl rfl<|Af rfl<|Aa<|Ak rfl<|AQ hb0 Tryz.func26 rfl rfl ?_
 cases h
 exact b0.gv
 refine Au<|Au<|BA rfl rfl<|Af rfl<|Aa<|Ak rfl<|AQ hb0 Tryz.func26 rfl rfl ?_
 cases h
 exact b0.gv
def slices_Clone_api_Plan_int_p (_n:Nat) (a0:List Int):Option (List Int):=
  nilCase a0 (some ([]:List Int)) ((app ([]:List Int) a0).bind fun b0=>some b0)
theorem slices_Clone_api_Plan_int_c (n:Nat) (L:List Nat) (w:World) (_hL:∀ b ∈ L,b < w.heap.size) (a0:List Int) {v0_0:Value} (h0_0:Rep.R w L [v0_0] a0)  {r:List Int} (h:slices_Clone_api_Plan_int_p n a0 = some r) :
    Calls Tryz.prog 27 #[v0_0] w (Gives w fun w' u=>∃ (v0_0:Value) (cs0_0:List Value),u = v0_0∧St w w' (rowsOf w.heap.size [(3,Rep.size Int,v0_0,r.length,cs0_0)])∧Cells w' (bl (rowsOf w.heap.size [(3,Rep.size Int,v0_0,r.length,cs0_0)]) ++ L) cs0_0 (r:List Int)):=by
 unfold slices_Clone_api_Plan_int_p at h
 have hS0:=AA w
 refine AC Tryz.func27 rfl rfl rfl (fun _ cs0 hb0=>?_)
 refine Ae<|Af rfl<|Aa<|Aj<|Ae<|Ac rfl ?_
 rcases Rep.nilOr h0_0 with ⟨c1,he3,hx4⟩ | ⟨ad2,c1,he3⟩
 have h:=nilCase_n h hx4
 refine Ab (FV.eqlNil1 Tryz.underlying53 rfl he3 rfl)<|Aa<|Bf rfl<|Ae<|Af rfl<|Aa<|Ak rfl ?_
 have b0:=hS0.nilRow 3 (Rep.size Int)
 have v0:=St.nilRowT hS0 3 (Rep.size Int)
 have k0:=AB (cs:=[]) (xs:=([]:List Int)) b0 L (AM _ _)
 refine Ao (u:=vN) hb0 Tryz.func27 rfl (.cons (.tmp rfl) .nil) rfl ?_
 cases h
 exact ⟨b0.ag,fun w9 hw9=>⟨vN,[],rfl,b0.agree hw9,Cells.keep0 k0 hw9⟩⟩
 have h:=nilCase_s h
 refine Ab (FV.eqlNil0 Tryz.underlying53 rfl he3 rfl)<|Aa<|Bo rfl<|Ap<|Ae<|Al .plain rfl (AV (α:=Int) (xs:=([]:List Int)) (vs:=[]) (ds' :=[]) rfl hS0 el53 rfl evs_nil (by kernel_rfl) rfl) (fun z0 u0 c0 x0=>?_)
 have p0:=AB (cs:=[]) (xs:=(([]:List Int):List Int)) c0 L (AM _ _)
 refine Ac rfl ?_
 obtain ⟨B0,t0,h⟩:=bi h
 have s0:=AI h0_0 c0
 refine RG.doesL .plain rfl (DoesL.app (α:=Int) (ys:=a0) t0 c0 (fun _ _=>.hd) el53 rfl rfl p0 (Src.rep s0)) (fun g0 A0 ⟨j0,d0,y0,q0⟩=>?_)
 refine Af rfl<|Aa<|Ak rfl<|Ao (u:=g0) hb0 Tryz.func27 rfl (.cons (.tmp rfl) .nil) rfl ?_
 cases h
 exact ⟨d0.ag,fun w9 hw9=>⟨g0,j0,rfl,d0.agree hw9,Cells.keep0 q0 hw9⟩⟩
def tb7_21:List (Nat × Nat × Nat):=[(0,174224571863520493293247799005065324265472,65536),(0,348449143727040986586495598010130648530944,4194304),(3,696898287454081973172991196020261297061888,522673715590561479879743397015195972796416),(4,1393796574908163946345982392040522594123776,696898287454081973172991196020261297061888),(0,2787593149816327892691964784081045188247552,1048576),(0,5575186299632655785383929568162090376495104,4194304),(48,11150372599265311570767859136324180752990208,8362779449448983678075894352243135564742656),(64,22300745198530623141535718272648361505980416,11150372599265311570767859136324180752990208),(136,44601490397061246283071436545296723011960832,23694541773438787087881700664688884100104192),(256,89202980794122492566142873090593446023921664,44601490397061246283071436545296723011960832)]
def tb7_27:List (Nat × Nat × Nat):=[(0,47890485652059026823698344598447161988085597568237568,4096),(0,95780971304118053647396689196894323976171195136475136,2048),(0,191561942608236107294793378393788647952342390272950272,512),(4,383123885216472214589586756787577295904684780545900544,191561942608236107294793378393788647952342390272950272),(8,766247770432944429179173513575154591809369561091801088,383123885216472214589586756787577295904684780545900544),(19,1532495540865888858358347027150309183618739122183602176,909919227389121509650268547370496077773626353796513792),(32,23945242826029513411849172299223580994042798784118784,1532495540865888858358347027150309183618739122183602176),(64,3064991081731777716716694054300618367237478244367204352,23945242826029513411849172299223580994042798784118784),(64,6129982163463555433433388108601236734474956488734408704,23945242826029513411849172299223580994042798784118784),(0,67108864,0),(767,0,3064991081731777716716694054300618367237478244434313216),(2047,134217728,6129982163463555433433388108601236734474956488734408704)]
def tb7_32:List (Nat × Nat × Nat):=[(0,51422017416287688817342786954917203280710495801049370729644032,8388608),(0,102844034832575377634685573909834406561420991602098741459288064,33554432),(3,205688069665150755269371147819668813122841983204197482918576128,154266052248863066452028360864751609842131487403148112188932096),(4,411376139330301510538742295639337626245683966408394965837152256,205688069665150755269371147819668813122841983204197482918576128),(8,822752278660603021077484591278675252491367932816789931674304512,411376139330301510538742295639337626245683966408394965870706688),(8,1645504557321206042154969182557350504982735865633579863348609024,411376139330301510538742295639337626245683966408394965837152256),(56,3291009114642412084309938365114701009965471731267159726697218048,2879632975312110573771196069475363383719787764858764760860065792),(72,6582018229284824168619876730229402019930943462534319453394436096,3702385253972713594848680660754038636211155697675554692534370304),(192,13164036458569648337239753460458804039861886925068638906788872192,6582018229284824168619876730229402019930943462534319453394436096),(256,26328072917139296674479506920917608079723773850137277813577744384,13164036458569648337239753460458804039861886925068638906855981056),(256,52656145834278593348959013841835216159447547700274555627155488768,13164036458569648337239753460458804039861886925068638906788872192),(1792,105312291668557186697918027683670432318895095400549111254310977536,92148255209987538360678274223211628279033208475480472347522105344),(2304,210624583337114373395836055367340864637790190801098222508621955072,118476328127126835035157781144129236358756982325617750161099849728),(8191,256,210624583337114373395836055367340864637790190801098222508621955072)]
theorem body10:bodyB Tryz.prog 10 = true:=by kernel_rfl
theorem body11:bodyB Tryz.prog 11 = true:=by kernel_rfl
theorem body17:bodyB Tryz.prog 17 = true:=by kernel_rfl
theorem body18:bodyB Tryz.prog 18 = true:=by kernel_rfl
theorem body26:bodyB Tryz.prog 26 = true:=by kernel_rfl
theorem body27:bodyB Tryz.prog 27 = true:=by kernel_rfl
def wardmotelaw27_InterestMerges_l1 (n:Nat) (c0:(List TShare) × Int) (k0:(List TShare) × Int) (d0:Nat → Option (Bool ⊕ Unit)):Nat → Option (Bool ⊕ Unit)
  | b0=>(if b0 < c0.1.length then (c0.1[b0]?).bind fun g0=>(k0.1[b0]?).bind fun j0=>(wardmotelaw27_atMost_p n g0 j0).bind fun p0=>(if p0 = true then d0 (b0 + 1) else some (.inl false)) else some (.inr ()))
def wardmotelaw27_InterestMerges_l2 (_n:Nat) (c0:(List Int) × Int) (a3:UInt8) (k0:Nat × (List Int) × (List Int) → Option ((List Int) × (List Int))):Nat × (List Int) × (List Int) → Option ((List Int) × (List Int))
  | (b0,d0,g0)=>(if b0 < c0.1.length then (c0.1[b0]?).bind fun j0=>(chk (j0 + ((a3.toNat:Nat):Int))).bind fun p0=>(remI p0 c0.2).bind fun q0=>(g0[b0]?).bind fun _x267=>(put g0 ((b0:Nat):Int) q0).bind fun t0=>(chk (c0.2 - 2)).bind fun s0=>(d0[b0]?).bind fun _x295=>(put d0 ((b0:Nat):Int) (min j0 (max 0 s0))).bind fun u0=>k0 (b0 + 1,u0,t0) else some (g0,d0))
def wardmotelaw27_InterestMerges_p (n:Nat) (a0:TDraft48) (a1:TDraft50) (a2:TDraft) (a3:UInt8):Option Bool:=
  (wardmotelaw27_works_p n).bind fun C0=>(if C0 = true then (wardmoteref21_Draft_Loose_p n a0).bind fun b0=>(wardmoteref22_Draft_Roll_p n a1 ((b0.1.length:Nat):Int)).bind fun d0=>(wardmoteref27_Draft_List_p n a2 ((b0.1.length:Nat):Int)).bind fun c0=>(slices_Clone_api_Plan_int_p n b0.1).bind fun I0=>(slices_Clone_api_Plan_int_p n b0.1).bind fun J0=>Option.bind (loopF (wardmotelaw27_InterestMerges_l2 n b0 a3) n (0,J0,I0)) (fun (t0,s0)=>(interest_Largest_p n c0 d0 b0.1 b0.2).bind fun k0=>(interest_Largest_p n c0 d0 t0 b0.2).bind fun v0=>(chk (b0.2 - 1)).bind fun z0=>(interest_Largest_p n c0 d0 s0 (max 1 z0)).bind fun p0=>jn (fun y0=>(if y0 = true then some false else thn (loopF (wardmotelaw27_InterestMerges_l1 n k0 p0) n 0) (fun _=>(interest_Score_p n c0 d0 b0.1 b0.2).bind fun g0=>(interest_Score_p n c0 d0 t0 b0.2).bind fun x0=>(chk (b0.2 - 1)).bind fun A0=>(interest_Score_p n c0 d0 s0 (max 1 A0)).bind fun q0=>(mk ((b0.1.length:Nat):Int) (0:Int)).bind fun B0=>(interest_Score_p n c0 d0 B0 (1:Int)).bind fun u0=>(if g0.1 = x0.1 then (if g0.2 = x0.2 then (if g0.2 = q0.2 then (if g0.2 = u0.2 then (if g0.2 = 0 then (wardmotelaw27_atMost_p n g0.1 q0.1).bind fun D0=>(if D0 = true then (wardmotelaw27_of_p n (1:Int) (1:Int)).bind fun E0=>(wardmotelaw27_atMost_p n q0.1 E0).bind fun F0=>(if F0 = true then (wardmotelaw27_of_p n (1:Int) (1:Int)).bind fun G0=>some (decide (u0.1 = G0)) else some false) else some false) else some (decide (g0.2 = 7))) else some false) else some false) else some false) else some false)))) (fun j0=>(if k0.2 = 0 then (if v0.2 = 0 then (if p0.2 = 0 then (slices_Equal_api_Share_api_Share_p n k0.1 v0.1).bind fun H0=>(if H0 = true then (if k0.1.length = c0.length then j0 (!(decide (p0.1.length = c0.length))) else j0 true) else j0 true) else j0 true) else j0 true) else j0 true))) else some false)
theorem wardmotelaw27_InterestMerges_c (n:Nat) (L:List Nat) (w:World) (hL:∀ b ∈ L,b < w.heap.size) (a0:TDraft48) {v0_1:Value} (h0_1:Rep.R w L [v0_1] a0.fF) {v0_2:Value} (h0_2:Rep.R w L [v0_2] a0.fMore) {v0_3:Value} (h0_3:Rep.R w L [v0_3] a0.fLabels) (a1:TDraft50) {v1_4:Value} (h1_4:Rep.R w L [v1_4] a1.fNums) (a2:TDraft) {v2_0:Value} (h2_0:Rep.R w L [v2_0] a2.fL) (a3:UInt8) (hG0:Glob 0 tab0 w)  {r:Bool} (h:wardmotelaw27_InterestMerges_p n a0 a1 a2 a3 = some r) :
    Calls Tryz.prog 7 #[.agg #[.int .u8 (a0.fN.toNat:Int),v0_1,v0_2,v0_3,.int .u8 (a0.fK.toNat:Int)],.agg #[.int .u8 (a1.fh.toNat:Int),.int .u8 (a1.fc.toNat:Int),.int .u8 (a1.fe.toNat:Int),.int .u8 (a1.fu.toNat:Int),v1_4],.agg #[v2_0],.int .u8 (a3.toNat:Int)] w (Gives w fun _ u=>u = .bool r):=by
 unfold wardmotelaw27_InterestMerges_p at h
 have hS0:=AA w
 refine AC Tryz.func7 rfl rfl rfl (fun _ cs0 hb0=>?_)
 refine Ae<|Al .plain rfl (Ax hS0 rfl rfl) (fun w11 g9 U4 B9=>?_)
 refine Al .plain rfl (Ax U4 rfl rfl) (fun w16 j9 V4 C9=>?_)
 refine Al .plain rfl (Ax V4 rfl rfl) (fun w21 k9 M0 D9=>?_)
 refine Af rfl<|Aa<|Aj<|Ae ?_
 obtain ⟨P8,W7,h⟩:=bi h
 refine Bb (.bool P8) body10 rfl evs_nil (fun w9 hw9=>wardmotelaw27_works_c n _ w9 (M0.hL0 hL hw9) (hG0.keep (M0.ag.trans hw9)) W7) rfl<|Ab (Bv rfl)<|Aa<|MX.ifnb rfl h (fun p4 h=>?_) (fun p4 h=>?_)
 refine Ap<|Ae<|Ab (AG rfl (M0.memA (.tl (.tl .hd)))) ?_
 obtain ⟨g0,X7,h⟩:=bi h
 refine Bm (fst:=[]) (cap:=[]) .plain body17 rfl (e1 rfl) (fun w9 hw9=>wardmoteref21_Draft_Loose_c n _ w9 (M0.hL hL hw9) a0 (M0.km h0_1 hw9) (M0.km h0_2 hw9) (M0.km h0_3 hw9) X7) rfl (fun w28 g00 s5 ⟨Z2,hu_,B0⟩=>?_)
 subst hu_
 obtain ⟨K1,E9⟩:=M0.agr s5
 refine Ac rfl<|Ab (Ag rfl rfl)<|Ab (Ag rfl rfl)<|Af rfl<|Af rfl<|Aa<|Ae<|Ab (AG rfl (K1.memA (.tl .hd)))<|Ac rfl ?_
 have J9:g0.1.length ≤ 281474976710656:=AR B0
 refine Ab (AZ (xs:=g0.1) Tryz.underlying53 rfl B0) ?_
 obtain ⟨c0,c8,h⟩:=bi h
 refine Bm (fst:=[]) (cap:=[]) .plain body18 rfl (e2 rfl rfl) (fun w9 hw9=>wardmoteref22_Draft_Roll_c n _ w9 (K1.hL hL hw9) a1 (K1.km h1_4 hw9) ((g0.1.length:Nat):Int) c8) rfl (fun w37 q00 x5 ⟨x0,hu_,R0⟩=>?_)
 subst hu_
 obtain ⟨Y4,x2⟩:=K1.agr x5
 refine Al .plain rfl (AD [vI 0,vI 0,vI 0,vN] Y4) (fun w45 q0 g5 E0=>?_)
 have P6:=Ay R0 E0
 refine AY [vI c0.fh,vI c0.fc,vI c0.fe,x0] g5 .hd (o4 rfl rfl rfl (Bh P6)) (fun w50 U1 Q0=>?_)
 refine Aa<|Ae<|Ab (AG rfl (U1.memA (.tl .hd)))<|Ac rfl ?_
 have W2:=Tt x2 (Tt E0 Q0)
 have R6:=Ay B0 W2
 refine Ab (AZ (xs:=g0.1) Tryz.underlying53 rfl R6) ?_
 obtain ⟨v0,x8,h⟩:=bi h
 refine Bm (fst:=[]) (cap:=[]) .plain body11 rfl (e2 rfl rfl) (fun w9 hw9=>wardmoteref27_Draft_List_c n _ w9 (U1.hL hL hw9) a2 (U1.km h2_0 hw9) ((g0.1.length:Nat):Int) x8) rfl (fun w56 b3 y5 ⟨v61,hu_,U0⟩=>?_)
 subst hu_
 obtain ⟨V1,F0⟩:=U1.agr y5
 refine Af rfl<|Aa<|Ae<|Ac rfl ?_
 obtain ⟨j3,y8,h⟩:=bi h
 have U6:=Ay B0 (Tt W2 F0)
 refine Bm (fst:=[]) (cap:=[]) .plain body27 rfl (e1 rfl) (fun w9 hw9=>own_gives (b0:=w.heap.size) (slices_Clone_api_Plan_int_c n _ w9 (V1.hL hL hw9) g0.1 (Aw U6 hw9) y8) hw9 (Nat.le_trans V1.ag.size hw9.size)) rfl (fun w65 V0 H9 ⟨v72,p2,J7,U3,B5⟩=>?_)
 subst J7
 have y1:=own_push V1 U3
 have C2:=own_tr V1 U3
 have C5:=AB (cs:=p2) (xs:=(j3:List Int)) y1 L (own_cells B5)
 refine Ac rfl ?_
 obtain ⟨k3,z8,h⟩:=bi h
 have b2:=Tt W2 (Tt F0 C2)
 have V6:=Ay B0 b2
 refine Bm (fst:=[]) (cap:=[]) .plain body27 rfl (e1 rfl) (fun w9 hw9=>own_gives (b0:=w.heap.size) (slices_Clone_api_Plan_int_c n _ w9 (y1.hL hL hw9) g0.1 (Aw V6 hw9) z8) hw9 (Nat.le_trans y1.ag.size hw9.size)) rfl (fun F8 W0 I9 ⟨v87,q2,K7,V3,D5⟩=>?_)
 subst K7
 have s3:=own_push y1 V3
 have v1:=own_tr y1 V3
 have E5:=AB (cs:=q2) (xs:=(k3:List Int)) s3 L (own_cells D5)
 refine Af rfl<|Af rfl<|Aa<|Aj<|Ae<|Ac rfl ?_
 have W6:=Ay B0 (Tt b2 v1)
 refine Ab (AZ (xs:=g0.1) Tryz.underlying53 rfl W6)<|Ac rfl<|Aa<|Ar ?_
 obtain ⟨W4,p1⟩:=AJ s3 (.one .hd (.one .hd (.one .hd .done)))
 have X5:=AF E5 p1
 have Y5:=AF C5 (Tt v1 p1)
 obtain ⟨W9,X6,Q5⟩:=bind_in2 h
 refine Bc (α:=Nat × (List Int) × (List Int) × (List Value) × (List Value)) (fun ⟨u0,z0,A0,Y0,Z0⟩=>[(3,.int .u8 (a3.toNat:Int)),(9,Z2),(10,vI g0.2),(11,vP q0),(12,b3),(13,V0),(14,W0),(48,vI ((g0.1.length:Nat):Int)),(49,vI ((u0:Nat):Int))]) (fun ⟨u0,z0,A0,Y0,Z0⟩ F1=>St w F1 [.row w.heap.size 3 (Rep.size Int) W0 z0.length Y0,.row w.heap.size 3 (Rep.size Int) V0 A0.length Z0,.cells q0 [vI c0.fh,vI c0.fc,vI c0.fe,x0] 58]∧Tr F8 [.row w.heap.size 3 (Rep.size Int) W0 k3.length q2,.row w.heap.size 3 (Rep.size Int) V0 j3.length p2,.cells q0 [vI c0.fh,vI c0.fc,vI c0.fe,x0] 58] F1 [.row w.heap.size 3 (Rep.size Int) W0 z0.length Y0,.row w.heap.size 3 (Rep.size Int) V0 A0.length Z0,.cells q0 [vI c0.fh,vI c0.fc,vI c0.fe,x0] 58]∧Cells F1 (bl [.row w.heap.size 3 (Rep.size Int) W0 z0.length Y0,.row w.heap.size 3 (Rep.size Int) V0 A0.length Z0,.cells q0 [vI c0.fh,vI c0.fc,vI c0.fe,x0] 58] ++ L) Y0 z0∧Cells F1 (bl [.row w.heap.size 3 (Rep.size Int) W0 z0.length Y0,.row w.heap.size 3 (Rep.size Int) V0 A0.length Z0,.cells q0 [vI c0.fh,vI c0.fc,vI c0.fe,x0] 58] ++ L) Z0 A0) (fun ⟨u0,z0,A0,Y0,Z0⟩=>(u0,z0,A0)) (0,k3,j3,q2,p2) X6 ⟨rfl,rfl,rfl,rfl,rfl,rfl,rfl,rfl,rfl,trivial⟩ ⟨W4,AP _ _,X5,Y5⟩ ?_
 rintro b9 ⟨u0,z0,A0,Y0,Z0⟩ F1 Q4 ⟨b1,A1,u3,E2⟩ h
 unfold wardmotelaw27_InterestMerges_l2 at h
 try dsimp only at h
 refine Ae<|Ab (Bd (i:=u0) (j:=g0.1.length) rfl rfl)<|Aa<|Aj<|AO rfl h (fun k4 h=>?_) (fun k4 h=>?_)
 refine Ap<|Aj<|Ar<|Ae<|Ac rfl<|Af rfl<|Aa<|Ae<|Ac rfl<|Ac rfl<|Ac rfl<|Ac rfl ?_
 obtain ⟨g2,K3,h⟩:=bi h
 have D3:=Tt b2 (Tt v1 (Tt p1 A1))
 have b6:=Ay B0 D3
 obtain ⟨W8,p9,F5,R5,H4,u7,Z5⟩:=Bk b6 K3
 have G5:H4 = [vI g2]:=u7; subst G5
 refine Ab (Bn 1 u0 rfl F5 rfl rfl R5)<|Ba rfl (Z5 0 _ rfl)<|Ac rfl ?_
 have V9:=a3.toNat_lt
 refine Ab (FV.convN (i:=a3.toNat) Tryz.underlying5 Tryz.underlying3 rfl (by omega)) ?_
 obtain ⟨A8,E7,h⟩:=bi h
 refine Ab (FV.addc (i:=g2) (j:=((a3.toNat:Nat):Int)) rfl rfl E7)<|Ac rfl ?_
 obtain ⟨Y9,F7,h⟩:=bi h
 refine Ab (FV.remc (i:=A8) (j:=g0.2) rfl rfl F7) ?_
 obtain ⟨G8,M7,h⟩:=bi h
 obtain ⟨b4,q9,F2,z3,I4,v7,R9⟩:=St.nth (α:=Int) b1 (.tl .hd) E2 M7
 obtain ⟨g4,s9,v3⟩:=St.nthOwn (α:=Int) b1 (.tl .hd) z3
 obtain rfl:b4 = ⟨g4,0,none⟩:=by rw [v3] at F2; cases F2; rfl
 have H5:I4 = [vI G8]:=v7; subst H5
 refine Ab (Bn 1 u0 rfl F2 rfl rfl z3) ?_
 obtain ⟨K8,U7,h⟩:=bi h
 refine RG.acts' .plain (Acts.set (α:=Int) (i:=u0) U7 b1 v3 (fun _=>(.tl .hd)) E2 rfl rfl rfl rfl rfl (by kernel_rfl)) (fun x00 ⟨J4,s2,v2,z5⟩=>?_)
 refine Aa<|Am<|Ac rfl<|Ac rfl<|Ac rfl<|Ac rfl ?_
 have d6:=Ay B0 (Tt D3 v2)
 obtain ⟨X8,t9,I5,U5,K4,x7,c6⟩:=Bk d6 K3
 have J5:K4 = [vI g2]:=x7; subst J5
 refine Ab (Bn 1 u0 rfl I5 rfl rfl U5)<|Ba rfl (c6 0 _ rfl)<|Ac rfl ?_
 obtain ⟨P3,G7,h⟩:=bi h
 refine Ab (FV.subc (i:=g0.2) (j:=2) rfl rfl G7)<|Ab (FV.max2 (i:=0) (j:=P3) rfl rfl)<|Ab (FV.min2 (i:=g2) (j:=max 0 P3) rfl rfl) ?_
 obtain ⟨H8,P7,h⟩:=bi h
 have B3:=AF u3 v2
 obtain ⟨c4,u9,G2,A3,M4,y7,U9⟩:=St.nth (α:=Int) s2 .hd B3 P7
 obtain ⟨j4,v9,x3⟩:=St.nthOwn (α:=Int) s2 .hd A3
 obtain rfl:c4 = ⟨j4,0,none⟩:=by rw [x3] at G2; cases G2; rfl
 have K5:M4 = [vI H8]:=y7; subst K5
 refine Ab (Bn 1 u0 rfl G2 rfl rfl A3) ?_
 obtain ⟨M8,V7,h⟩:=bi h
 refine RG.acts' .plain (Acts.set (α:=Int) (i:=u0) V7 s2 x3 (fun _=>.hd) B3 rfl rfl rfl rfl rfl (by kernel_rfl)) (fun y00 ⟨P4,X4,t3,A5⟩=>?_)
 refine Aa<|Av<|Am<|Ab (Bi (i:=u0) (j:=1) rfl rfl (by omega))<|Ac rfl<|Aa ?_
 have g6:=AF z5 t3
 exact Q4 (u0 + 1,M8,K8,P4,J4) _ _ ⟨rfl,rfl,rfl,rfl,rfl,rfl,rfl,rfl,rfl,trivial⟩ ⟨X4,(Tt A1 (Tt v2 t3)),A5,g6⟩ h
 refine AU rfl ?_
 have h:=Q5 _ h
 try dsimp only at h
 refine Ae<|Ac rfl<|Ab (AG rfl (b1.memA (.tl (.tl .hd))))<|Ac rfl<|Ac rfl ?_
 obtain ⟨X0,Y7,h⟩:=bi h
 have P2:=Tt C2 (Tt v1 (Tt p1 A1))
 have j6:=Ay U0 P2
 have E3:=Tt E0 (Tt Q0 (Tt F0 P2))
 have k6:=Ay R0 E3
 have p6:=Ay B0 (Tt x2 E3)
 refine Bm (fst:=[]) (cap:=[]) .plain body19 rfl (e4 rfl rfl rfl rfl) (fun w9 hw9=>interest_Largest_c n _ w9 (b1.hL hL hw9) v0 (Aw j6 hw9) c0 (Aw k6 hw9) g0.1 (Aw p6 hw9) g0.2 (hG0.keep (b1.ag.trans hw9)) Y7) rfl (fun z00 j00 t5 ⟨W3,hu_,X2⟩=>?_)
 subst hu_
 obtain ⟨M1,B1⟩:=b1.agr t5
 refine Ac rfl<|Ab (Ag rfl rfl)<|Ab (Ag rfl rfl)<|Af rfl<|Af rfl<|Aa<|Ae<|Ac rfl<|Ab (AG rfl (M1.memA (.tl (.tl .hd))))<|Ac rfl<|Ac rfl ?_
 have q6:=AF E2 B1
 have z7:=Bu (α:=Int) M1 (.tl .hd) q6 hL
 have P1:=St.delS M1 (.tl .hd)
 have C1:=St.delT M1 (.tl .hd)
 have I3:=Rep.at_ (α:=Int) (v:=V0) (xs:=A0) P1 L z7
 obtain ⟨Y3,Z7,h⟩:=bi h
 have Q2:=Tt P2 (Tt B1 C1)
 have s6:=Ay U0 Q2
 have Z6:=Tt E0 (Tt Q0 (Tt F0 Q2))
 have t6:=Ay R0 Z6
 refine Bm (fst:=[]) (cap:=[]) .plain body19 rfl (e4 rfl rfl rfl rfl) (fun w9 hw9=>interest_Largest_c n _ w9 (P1.hL hL hw9) v0 (Aw s6 hw9) c0 (Aw t6 hw9) A0 (Aw I3 hw9) g0.2 (hG0.keep (P1.ag.trans hw9)) Z7) rfl (fun A00 k00 u5 ⟨Z9,hu_,A7⟩=>?_)
 subst hu_
 obtain ⟨Q1,q1⟩:=P1.agr u5
 refine Ac rfl<|Ab (Ag rfl rfl)<|Ab (Ag rfl rfl)<|Af rfl<|Af rfl<|Aa<|Ae<|Ac rfl<|Ab (AG rfl (Q1.memA (.tl .hd)))<|Ac rfl<|Ac rfl ?_
 obtain ⟨Q3,H7,h⟩:=bi h
 refine Ab (FV.subc (i:=g0.2) (j:=1) rfl rfl H7)<|Ab (FV.max2 (i:=1) (j:=Q3) rfl rfl) ?_
 have b7:=Tt B1 (Tt C1 q1)
 have u6:=AF u3 b7
 have B7:=Bu (α:=Int) Q1 .hd u6 hL
 have R1:=St.delS Q1 .hd
 have s1:=St.delT Q1 .hd
 have J3:=Rep.at_ (α:=Int) (v:=W0) (xs:=z0) R1 L B7
 obtain ⟨G1,b8,h⟩:=bi h
 have R2:=Tt Q2 (Tt q1 s1)
 have v6:=Ay U0 R2
 have c7:=Tt E0 (Tt Q0 (Tt F0 R2))
 have x6:=Ay R0 c7
 refine Bm (fst:=[]) (cap:=[]) .plain body19 rfl (e4 rfl rfl rfl rfl) (fun w9 hw9=>interest_Largest_c n _ w9 (R1.hL hL hw9) v0 (Aw v6 hw9) c0 (Aw x6 hw9) z0 (Aw J3 hw9) (max 1 Q3) (hG0.keep (R1.ag.trans hw9)) b8) rfl (fun D8 p00 v5 ⟨X3,hu_,Y2⟩=>?_)
 subst hu_
 obtain ⟨P0,g1⟩:=R1.agr v5
 refine Ac rfl<|Ab (Ag rfl rfl)<|Ab (Ag rfl rfl)<|Af rfl<|Af rfl<|Aa<|Aj<|Aj<|MX.join (α:=Bool) (fun E1=>[(9,Z2),(10,vI g0.2),(11,vP q0),(12,b3),(13,V0),(14,W0),(16,W3),(20,X3),(131,.bool E1)]) (fun E1 d2=>St w d2 [.cells q0 [vI c0.fh,vI c0.fc,vI c0.fe,x0] 58]∧Tr D8 [.cells q0 [vI c0.fh,vI c0.fc,vI c0.fe,x0] 58] d2 [.cells q0 [vI c0.fh,vI c0.fc,vI c0.fe,x0] 58]) (fun E1=>E1) h ?_ ?_
 rintro E1 d2 ⟨q3,u1⟩ h
 try dsimp only at h
 refine MX.ifb rfl h (fun q4 h=>?_) (fun q4 h=>?_)
 refine Ae<|Af rfl<|Aa<|Ak rfl<|AQ hb0 Tryz.func7 rfl rfl ?_
 cases h
 exact q3.gv
 refine Ap<|Aj<|Ae<|Ac rfl ?_
 have F3:=Tt C1 (Tt q1 (Tt s1 (Tt g1 u1)))
 have C3:=Ay X2 F3
 have K9:X0.1.length ≤ 281474976710656:=AR C3
 refine Ab (AZ (xs:=X0.1) Tryz.underlying60 rfl C3)<|Ac rfl<|Aa<|Ar ?_
 obtain ⟨X9,Y6,y3⟩:=thn_in h
 refine Bc (α:=Nat) (fun G0=>[(9,Z2),(10,vI g0.2),(11,vP q0),(12,b3),(13,V0),(14,W0),(16,W3),(20,X3),(133,vI ((X0.1.length:Nat):Int)),(134,vI ((G0:Nat):Int))]) (fun G0 d3=>St w d3 [.cells q0 [vI c0.fh,vI c0.fc,vI c0.fe,x0] 58]∧Tr d2 [.cells q0 [vI c0.fh,vI c0.fc,vI c0.fe,x0] 58] d3 [.cells q0 [vI c0.fh,vI c0.fc,vI c0.fe,x0] 58]) (fun G0=>G0) 0 Y6 ⟨rfl,rfl,rfl,rfl,rfl,rfl,rfl,rfl,rfl,rfl,trivial⟩ ⟨q3,AP _ _⟩ ?_
 rintro d9 G0 d3 R4 ⟨D0,j1⟩ h
 unfold wardmotelaw27_InterestMerges_l1 at h
 try dsimp only at h
 refine Ae<|Ab (Bd (i:=G0) (j:=X0.1.length) rfl rfl)<|Aa<|Aj<|AO rfl h (fun F4 h=>?_) (fun F4 h=>?_)
 refine Ap<|Aj<|Ar<|Ae<|Ac rfl<|Af rfl<|Aa<|Aj<|dt 10 tb7_21 (fun C0 H0=>?_)
 refine Ah 0 1 C0 rfl H0 (fun _=>Ai rfl) rfl<|Ah 1 3 C0 rfl H0 (fun _=>Ai rfl) rfl ?_
 obtain ⟨I8,Q7,h⟩:=bi h
 have A6:=Ay X2 (Tt F3 j1)
 obtain ⟨Y8,x9,M5,V5,z9,C7,z6⟩:=Bk A6 Q7
 obtain rfl:=op_TShare C7
 refine Ah 2 7 C0 rfl H0 (fun _=>Bn 16 G0 rfl M5 rfl rfl V5) rfl<|AE 3 15 768 C0 rfl H0 (AG rfl z6) rfl<|Ah 4 31 C0 rfl H0 (fun _=>Ai rfl) rfl<|Ah 5 63 C0 rfl H0 (fun _=>Ai rfl) rfl ?_
 obtain ⟨J8,R7,h⟩:=bi h
 have C6:=Ay Y2 (Tt u1 j1)
 obtain ⟨Z8,y9,P5,W5,A9,D7,B6⟩:=Bk C6 R7
 obtain rfl:=op_TShare D7
 refine Ah 6 127 C0 rfl H0 (fun _=>Bn 16 G0 rfl P5 rfl rfl W5) rfl<|AE 7 255 768 C0 rfl H0 (AG rfl B6) rfl ?_
 obtain ⟨V8,q8,h⟩:=bi h
 refine RD.cq 8 511 512 (.bool V8) C0 rfl H0 body26 rfl (e2 rfl rfl) (fun w9 hw9=>wardmotelaw27_atMost_c n _ w9 (D0.hL0 hL hw9) I8 J8 q8) rfl<|Ah 9 1023 C0 rfl H0 (fun _=>Bv rfl) rfl<|AK (dk C0)<|MX.ifnb rfl h (fun G4 h=>?_) (fun G4 h=>?_)
 refine Ap<|Av<|Am<|Ab (Bi (i:=G0) (j:=1) rfl rfl (by omega))<|Ac rfl<|Aa ?_
 exact R4 (G0 + 1) _ _ ⟨rfl,rfl,rfl,rfl,rfl,rfl,rfl,rfl,rfl,rfl,trivial⟩ ⟨D0,j1⟩ h
 refine Ae<|Af rfl<|Aa ?_
 have h:=thn_inl h y3
 refine Ak rfl<|AQ hb0 Tryz.func7 rfl rfl ?_
 cases h
 exact D0.gv
 refine AU rfl ?_
 have h:=thn_inr h y3
 try dsimp only at h
 refine Ae<|Ac rfl<|Ab (AG rfl (D0.memA .hd))<|Ac rfl<|Ac rfl ?_
 obtain ⟨t0,s8,h⟩:=bi h
 have U2:=Tt R2 (Tt g1 (Tt u1 j1))
 have D6:=Ay U0 U2
 have H3:=Tt E0 (Tt Q0 (Tt F0 U2))
 have E6:=Ay R0 H3
 have F6:=Ay B0 (Tt x2 H3)
 refine Bb (.tuple #[.agg ((cs_TShare t0.1)).toArray,vI t0.2]) body23 rfl (e4 rfl rfl rfl rfl) (fun w9 hw9=>interest_Score_c n _ w9 (D0.hL0 hL hw9) v0 (D0.kd D6 hw9) c0 (D0.kd E6 hw9) g0.1 (D0.kd F6 hw9) g0.2 (hG0.keep (D0.ag.trans hw9)) s8) rfl<|Ac rfl<|Ab (Ag rfl rfl)<|Ab (Ag rfl rfl)<|Al .plain rfl (AD zL D0) (fun E00 H1 d5 X1=>?_)
 refine AY (cs_TShare t0.1) d5 .hd (onesB rfl) (fun F00 c1 Y1=>?_)
 refine Af rfl<|Aa<|Ae<|Ac rfl<|Ab (AG rfl (c1.memA (.tl .hd)))<|Ac rfl<|Ac rfl ?_
 obtain ⟨J0,t8,h⟩:=bi h
 have V2:=Tt U2 (Tt X1 Y1)
 have G6:=Ay U0 V2
 have k7:=Tt E0 (Tt Q0 (Tt F0 V2))
 have H6:=Ay R0 k7
 have p7:=Tt q1 (Tt s1 (Tt g1 (Tt u1 (Tt j1 (Tt X1 Y1)))))
 have I6:=Ay I3 p7
 refine Bb (.tuple #[.agg ((cs_TShare J0.1)).toArray,vI J0.2]) body23 rfl (e4 rfl rfl rfl rfl) (fun w9 hw9=>interest_Score_c n _ w9 (c1.hL0 hL hw9) v0 (c1.kd G6 hw9) c0 (c1.kd H6 hw9) A0 (c1.kd I6 hw9) g0.2 (hG0.keep (c1.ag.trans hw9)) t8) rfl<|Ac rfl<|Ab (Ag rfl rfl)<|Ab (Ag rfl rfl)<|Al .plain rfl (AD zL c1) (fun G00 I1 j5 y2=>?_)
 refine AY (cs_TShare J0.1) j5 .hd (onesB rfl) (fun H00 d1 z2=>?_)
 refine Af rfl<|Aa<|Ae<|Ac rfl<|Ab (AG rfl (d1.memA (.tl (.tl .hd))))<|Ac rfl<|Ac rfl ?_
 obtain ⟨R3,I7,h⟩:=bi h
 refine Ab (FV.subc (i:=g0.2) (j:=1) rfl rfl I7)<|Ab (FV.max2 (i:=1) (j:=R3) rfl rfl) ?_
 obtain ⟨K0,v8,h⟩:=bi h
 have Z1:=Tt V2 (Tt y2 z2)
 have J6:=Ay U0 Z1
 have q7:=Tt E0 (Tt Q0 (Tt F0 Z1))
 have K6:=Ay R0 q7
 have s7:=Tt g1 (Tt u1 (Tt j1 (Tt X1 (Tt Y1 (Tt y2 z2)))))
 have M6:=Ay J3 s7
 refine Bb (.tuple #[.agg ((cs_TShare K0.1)).toArray,vI K0.2]) body23 rfl (e4 rfl rfl rfl rfl) (fun w9 hw9=>interest_Score_c n _ w9 (d1.hL0 hL hw9) v0 (d1.kd J6 hw9) c0 (d1.kd K6 hw9) z0 (d1.kd M6 hw9) (max 1 R3) (hG0.keep (d1.ag.trans hw9)) v8) rfl<|Ac rfl<|Ab (Ag rfl rfl)<|Ab (Ag rfl rfl)<|Al .plain rfl (AD zL d1) (fun I00 J1 k5 A2=>?_)
 refine AY (cs_TShare K0.1) k5 .hd (onesB rfl) (fun E8 u2 B2=>?_)
 refine Af rfl<|Aa<|Aj<|dt 10 tb7_27 (fun k0 y0=>?_)
 refine Ah 0 1 k0 rfl y0 (fun _=>Ai rfl) rfl<|AE 1 3 3552 k0 rfl y0 (AG rfl (u2.memA (.tl (.tl (.tl .hd))))) rfl<|Ah 2 7 k0 rfl y0 (fun _=>Ai rfl) rfl ?_
 have t7:=Tt b2 (Tt v1 (Tt p1 (Tt A1 (Tt B1 (Tt C1 (Tt q1 (Tt s1 (Tt g1 (Tt u1 (Tt j1 (Tt X1 (Tt Y1 (Tt y2 (Tt z2 (Tt A2 B2)))))))))))))))
 have Q6:=Ay B0 t7
 refine AE 3 15 3568 k0 rfl y0 (AZ (xs:=g0.1) Tryz.underlying53 rfl Q6) rfl ?_
 obtain ⟨j2,c2,h⟩:=bi h
 obtain ⟨I0,M3,h⟩:=bi h
 refine RD.meet (α:=Nat) (fun x1=>[(23,vP H1),(17,vI t0.2),(24,vP I1),(19,vI J0.2),(25,vP J1),(21,vI K0.2),(181,.agg ((cs_TShare I0.1)).toArray),(182,vI I0.2),(26,vP x1)]) (fun x1 c3=>St w c3 [.cells x1 zL 42,.cells J1 (cs_TShare K0.1) 42,.cells I1 (cs_TShare J0.1) 42,.cells H1 (cs_TShare t0.1) 42]∧Tr E8 [.cells J1 (cs_TShare K0.1) 42,.cells I1 (cs_TShare J0.1) 42,.cells H1 (cs_TShare t0.1) 42,.cells q0 [vI c0.fh,vI c0.fc,vI c0.fe,x0] 58] c3 [.cells x1 zL 42,.cells J1 (cs_TShare K0.1) 42,.cells I1 (cs_TShare J0.1) 42,.cells H1 (cs_TShare t0.1) 42]) 2 1023 ?_ ?_
 rintro x1 c3 ⟨Z4,F9⟩
 try dsimp only
 refine By 10 2047 k0 rfl rfl .plain (Az (news:=(cs_TShare I0.1)) Z4 .hd rfl rfl rfl rfl rfl rfl (onesB rfl)) (fun C00 p0 G9=>?_)
 refine BB (i:=11) (rk k0) (RO.val (m' :=4095) (sk k0) rfl .plain rfl (AX rfl) ?_)
 refine AK (dk k0)<|Aj<|Ae<|Ab (AG rfl (p0.memA (.tl (.tl (.tl .hd)))))<|Ab (AG rfl (p0.memA (.tl (.tl .hd))))<|Ab (FV.neqV (xs:=((cs_TShare t0.1)).toArray) (ys:=((cs_TShare J0.1)).toArray) rfl rfl (by kernel_rfl) (eqlD_42 t0.1 J0.1))<|Ac rfl<|RG.ifn (s:=186) rfl h (fun s4 h=>?_) (fun s4 h=>?_)
 refine AN (Ai rfl)<|AN (Ai rfl)<|AN (FV.neq (i:=t0.2) (j:=J0.2) rfl rfl)<|BA rfl rfl<|Ac rfl<|RG.ifn (s:=191) rfl h (fun t4 h=>?_) (fun t4 h=>?_)
 refine AN (Ai rfl)<|AN (Ai rfl)<|AN (FV.neq (i:=t0.2) (j:=K0.2) rfl rfl)<|BA rfl rfl<|Ac rfl<|RG.ifn (s:=196) rfl h (fun u4 h=>?_) (fun u4 h=>?_)
 refine AN (Ai rfl)<|AN (Ai rfl)<|AN (FV.neq (i:=t0.2) (j:=I0.2) rfl rfl)<|BA rfl rfl<|Aa<|MX.ifn rfl h (fun v4 h=>?_) (fun v4 h=>?_)
 refine Ap<|Aj<|Ae<|Ac rfl<|Ab (FV.neq (i:=t0.2) (j:=0) rfl rfl)<|Aa<|MX.ifn rfl h (fun x4 h=>?_) (fun x4 h=>?_)
 refine Ap<|Aj<|dt 14 tb7_32 (fun d0 j0=>?_)
 refine AE 0 1 16380 d0 rfl j0 (AG rfl (p0.memA (.tl (.tl (.tl .hd))))) rfl<|AE 1 3 16380 d0 rfl j0 (AG rfl (p0.memA (.tl .hd))) rfl ?_
 obtain ⟨Q8,d8,h⟩:=bi h
 refine RD.cq 2 7 16376 (.bool Q8) d0 rfl j0 body26 rfl (e2 rfl rfl) (fun w9 hw9=>wardmotelaw27_atMost_c n _ w9 (p0.hL0 hL hw9) t0.1 K0.1 d8) rfl<|Ah 3 15 d0 rfl j0 (fun _=>Ai rfl) rfl<|RD.ifb (s:=208) rfl h (fun y4 h=>?_) (fun y4 h=>?_)
 refine RD.val (i:=4) (m' :=31) (W:=16320) (tk d0) rfl j0 (.yes rfl rfl) (AG rfl (p0.memA (.tl .hd))) rfl ?_
 obtain ⟨Z3,g8,h⟩:=bi h
 refine RD.callq (i:=5) (m' :=63) (W:=16320) (tk d0) rfl j0 (v:=.agg ((cs_TShare Z3)).toArray) (fst:=[]) (cap:=[]) (.yes rfl rfl) body20 rfl (e2 rfl rfl) (fun w9 hw9=>wardmotelaw27_of_c n _ w9 (p0.hL0 hL hw9) (1:Int) (1:Int) g8) rfl ?_
 obtain ⟨R8,j8,h⟩:=bi h
 refine RD.callq (i:=6) (m' :=127) (W:=16256) (tk d0) rfl j0 (v:=.bool R8) (fst:=[]) (cap:=[]) (.yes rfl rfl) body26 rfl (e2 rfl rfl) (fun w9 hw9=>wardmotelaw27_atMost_c n _ w9 (p0.hL0 hL hw9) K0.1 Z3 j8) rfl<|Ah 7 255 d0 rfl j0 (fun _=>FV.pick_t rfl rfl) rfl<|Ah 8 511 d0 rfl j0 (fun _=>Ai rfl) rfl<|RD.ifb (s:=213) rfl h (fun z4 h=>?_) (fun z4 h=>?_)
 refine RD.val (i:=9) (m' :=1023) (W:=14336) (tk d0) rfl j0 (.yes rfl rfl) (AG rfl (p0.memA .hd)) rfl ?_
 obtain ⟨g3,k8,h⟩:=bi h
 refine RD.callq (i:=10) (m' :=2047) (W:=14336) (tk d0) rfl j0 (v:=.agg ((cs_TShare g3)).toArray) (fst:=[]) (cap:=[]) (.yes rfl rfl) body20 rfl (e2 rfl rfl) (fun w9 hw9=>wardmotelaw27_of_c n _ w9 (p0.hL0 hL hw9) (1:Int) (1:Int) k8) rfl<|RD.vP 11 4095 d0 rfl j0 (.yes rfl rfl) (fun _=>FV.eqlV (v:=.agg ((cs_TShare I0.1)).toArray) (u:=.agg ((cs_TShare g3)).toArray) rfl rfl (eqlD_42 I0.1 g3)) rfl<|Ah 12 8191 d0 rfl j0 (fun _=>FV.pick_t rfl rfl) rfl<|Ah 13 16383 d0 rfl j0 (fun _=>AX rfl) rfl<|AK (dk d0)<|Ak rfl<|AQ hb0 Tryz.func7 rfl rfl ?_
 cases h
 exact p0.gv
 refine Bg 4095 2 [(9,214),(10,215),(11,216)] (F:=[(213,false)]) (U:=[]) d0 j0 (.cons rfl .nil) .nil ?_
 dsimp only [offS,List.map]
 refine Ah 12 8191 d0 rfl j0 (fun _=>AS rfl rfl) rfl<|Ah 13 16383 d0 rfl j0 (fun _=>AX rfl) rfl<|AK (dk d0)<|Ak rfl<|AQ hb0 Tryz.func7 rfl rfl ?_
 cases h
 exact p0.gv
 refine Bg 127 7 [(4,209),(5,210),(6,211)] (F:=[(208,false)]) (U:=[]) d0 j0 (.cons rfl .nil) .nil ?_
 dsimp only [offS,List.map]
 refine Ah 7 255 d0 rfl j0 (fun _=>AS rfl rfl) rfl<|Ah 8 511 d0 rfl j0 (fun _=>Ai rfl) rfl<|Bg 4095 2 [(9,214),(10,215),(11,216)] (F:=[(213,false)]) (U:=[]) d0 j0 (.cons rfl .nil) .nil ?_
 dsimp only [offS,List.map]
 refine Ah 12 8191 d0 rfl j0 (fun _=>AS rfl rfl) rfl<|Ah 13 16383 d0 rfl j0 (fun _=>AX rfl) rfl<|AK (dk d0)<|Ak rfl<|AQ hb0 Tryz.func7 rfl rfl ?_
 cases h
 exact p0.gv
 refine Ae<|Ac rfl<|Ab (FV.eql (i:=t0.2) (j:=7) rfl rfl)<|Af rfl<|Aa<|Ak rfl<|AQ hb0 Tryz.func7 rfl rfl ?_
 cases h
 exact p0.gv
 refine Ae<|Af rfl<|Aa<|Ak rfl<|AQ hb0 Tryz.func7 rfl rfl ?_
 cases h
 exact p0.gv
 refine Au<|Au<|Au<|Bx rfl rfl<|Aa<|Bf rfl<|Ae<|Af rfl<|Aa<|Ak rfl<|AQ hb0 Tryz.func7 rfl rfl ?_
 cases h
 exact p0.gv
 refine Au<|Au<|Au<|Bx rfl rfl<|Ac rfl<|Au<|Au<|Au<|Bx rfl rfl<|Aa<|Bf rfl<|Ae<|Af rfl<|Aa<|Ak rfl<|AQ hb0 Tryz.func7 rfl rfl ?_
 cases h
 exact p0.gv
 refine Au<|Au<|Au<|Bx rfl rfl<|Ac rfl<|Au<|Au<|Au<|Bx rfl rfl<|Ac rfl<|Au<|Au<|Au<|Bx rfl rfl<|Aa<|Bf rfl<|Ae<|Af rfl<|Aa<|Ak rfl<|AQ hb0 Tryz.func7 rfl rfl ?_
 cases h
 exact p0.gv
 intro p3
 refine RD.each [4,9] (rk k0) ⟨?_,?_,trivial⟩
 refine RO.new (m' :=31) (sk k0) rfl .plain rfl (Does.mk (α:=Int) c2 u2 el53 rfl) (fun B8 d4 s0 z1=>?_)
 have D2:=AB (cs:=(List.replicate ((g0.1.length:Nat):Int).toNat [vI 0]).flatten) (xs:=j2) s0 L (Cells.mk c2 rfl)
 have D1:=Tt Z1 (Tt A2 (Tt B2 z1))
 have H2:=Ay U0 D1
 have M2:=Tt E0 (Tt Q0 (Tt F0 D1))
 have I2:=Ay R0 M2
 refine RD.cq 5 63 3520 (.tuple #[.agg ((cs_TShare I0.1)).toArray,vI I0.2]) k0 rfl y0 body23 rfl (e4 rfl rfl rfl rfl) (fun w9 hw9=>interest_Score_c n _ w9 (s0.hL0 hL hw9) v0 (s0.kd H2 hw9) c0 (s0.kd I2 hw9) j2 (Aw (St.lend (α:=Int) (L:=L) s0 .hd D2 hL) hw9) (1:Int) (hG0.keep (s0.ag.trans hw9)) M3) rfl<|Ah 6 127 k0 rfl y0 (fun _=>Ai rfl) rfl<|Ah 7 255 k0 rfl y0 (fun _=>Ag rfl rfl) rfl<|Ah 8 511 k0 rfl y0 (fun _=>Ag rfl rfl) rfl<|RD.nu 9 1023 k0 rfl .plain rfl (AD zL s0) (fun C8 k2 t2 W1=>?_)
 obtain ⟨b5,p5⟩:=AJ t2 (.one .hd (.one (.tl .hd) (.one (.tl .hd) (.one (.tl .hd) .done))))
 have d7:=Tt z1 (Tt W1 p5)
 exact p3 k2 _ _ ⟨rfl,rfl,rfl,rfl,rfl,rfl,rfl,rfl,rfl,trivial⟩ ⟨b5,d7⟩
 refine RO.new (m' :=527) (sk k0) rfl .plain rfl (AD zL u2) (fun C8 k2 t2 W1=>?_)
 refine RD.nu 4 543 k0 rfl .plain rfl (Does.mk (α:=Int) c2 t2 el53 rfl) (fun B8 d4 s0 z1=>?_)
 have D2:=AB (cs:=(List.replicate ((g0.1.length:Nat):Int).toNat [vI 0]).flatten) (xs:=j2) s0 L (Cells.mk c2 rfl)
 have D1:=Tt Z1 (Tt A2 (Tt B2 (Tt W1 z1)))
 have H2:=Ay U0 D1
 have M2:=Tt E0 (Tt Q0 (Tt F0 D1))
 have I2:=Ay R0 M2
 refine RD.cq 5 575 3520 (.tuple #[.agg ((cs_TShare I0.1)).toArray,vI I0.2]) k0 rfl y0 body23 rfl (e4 rfl rfl rfl rfl) (fun w9 hw9=>interest_Score_c n _ w9 (s0.hL0 hL hw9) v0 (s0.kd H2 hw9) c0 (s0.kd I2 hw9) j2 (Aw (St.lend (α:=Int) (L:=L) s0 .hd D2 hL) hw9) (1:Int) (hG0.keep (s0.ag.trans hw9)) M3) rfl<|Ah 6 639 k0 rfl y0 (fun _=>Ai rfl) rfl<|Ah 7 767 k0 rfl y0 (fun _=>Ag rfl rfl) rfl<|Ah 8 1023 k0 rfl y0 (fun _=>Ag rfl rfl) rfl ?_
 obtain ⟨c5,q5⟩:=AJ s0 (.one (.tl .hd) (.one (.tl .hd) (.one (.tl .hd) (.one (.tl .hd) .done))))
 have g7:=Tt W1 (Tt z1 q5)
 exact p3 k2 _ _ ⟨rfl,rfl,rfl,rfl,rfl,rfl,rfl,rfl,rfl,trivial⟩ ⟨c5,g7⟩
 intro c9 k1 h
 try dsimp only at h
 refine Am<|Ac rfl<|Ab (FV.neq (i:=X0.2) (j:=0) rfl rfl)<|Ac rfl<|RG.ifn (s:=104) rfl h (fun A4 h=>?_) (fun A4 h=>?_)
 refine AN (Ai rfl)<|AN (FV.neq (i:=Y3.2) (j:=0) rfl rfl)<|BA rfl rfl<|Ac rfl<|RG.ifn (s:=108) rfl h (fun B4 h=>?_) (fun B4 h=>?_)
 refine AN (Ai rfl)<|AN (FV.neq (i:=G1.2) (j:=0) rfl rfl)<|BA rfl rfl<|Ac rfl<|RG.ifn (s:=112) rfl h (fun C4 h=>?_) (fun C4 h=>?_)
 refine AN (Ai rfl)<|AN (Ai rfl) ?_
 obtain ⟨U8,p8,h⟩:=bi h
 have G3:=Tt C1 (Tt q1 (Tt s1 g1))
 have J2:=Ay X2 G3
 have y6:=Ay A7 (Tt s1 g1)
 refine RG.callq' (v:=.bool U8) (fst:=[]) (cap:=[]) (.yes rfl rfl) body28 rfl (e2 rfl rfl) (fun w9 hw9=>slices_Equal_api_Share_api_Share_c n _ w9 (P0.hL0 hL hw9) X0.1 (P0.kd J2 hw9) Y3.1 (P0.kd y6 hw9) p8) rfl<|AN (Bv rfl)<|BA rfl rfl<|Ac rfl<|RG.ifnb (s:=118) rfl h (fun D4 h=>?_) (fun D4 h=>?_)
 refine AN (Ai rfl) ?_
 have M9:X0.1.length ≤ 281474976710656:=AR J2
 refine AN (AZ (xs:=X0.1) Tryz.underlying60 rfl J2)<|AN (Ai rfl) ?_
 have j7:=Tt C2 (Tt v1 (Tt p1 (Tt A1 (Tt B1 G3))))
 have K2:=Ay U0 j7
 have P9:v0.length ≤ 281474976710656:=AR K2
 refine AN (AZ (xs:=v0) Tryz.underlying30 rfl K2)<|AN (FV.neqN (i:=X0.1.length) (j:=v0.length) rfl rfl)<|BA rfl rfl<|Ac rfl<|RG.ifn (s:=125) rfl h (fun E4 h=>?_) (fun E4 h=>?_)
 refine AN (Ai rfl) ?_
 have Q9:G1.1.length ≤ 281474976710656:=AR Y2
 refine AN (AZ (xs:=G1.1) Tryz.underlying60 rfl Y2)<|AN (Ai rfl)<|AN (AZ (xs:=v0) Tryz.underlying30 rfl K2)<|AN (FV.neqN (i:=G1.1.length) (j:=v0.length) rfl rfl)<|BA rfl rfl<|Aa ?_
 exact k1 (!(decide (G1.1.length = v0.length))) _ _ ⟨rfl,rfl,rfl,rfl,rfl,rfl,rfl,rfl,rfl,trivial⟩ ⟨P0,AP _ _⟩ h
 refine Au<|Au<|Au<|Au<|Au<|Bx rfl rfl<|Aa ?_
 exact k1 true _ _ ⟨rfl,rfl,rfl,rfl,rfl,rfl,rfl,rfl,rfl,trivial⟩ ⟨P0,AP _ _⟩ h
 refine Au<|Au<|Au<|Au<|Au<|Bx rfl rfl<|Ac rfl<|Au<|Au<|Au<|Au<|Au<|Bx rfl rfl<|Aa ?_
 exact k1 true _ _ ⟨rfl,rfl,rfl,rfl,rfl,rfl,rfl,rfl,rfl,trivial⟩ ⟨P0,AP _ _⟩ h
 refine Au<|Au<|Au<|Au<|Bx rfl rfl<|Ac rfl<|Au<|Au<|Au<|Au<|Au<|Bx rfl rfl<|Ac rfl<|Au<|Au<|Au<|Au<|Au<|Bx rfl rfl<|Aa ?_
 exact k1 true _ _ ⟨rfl,rfl,rfl,rfl,rfl,rfl,rfl,rfl,rfl,trivial⟩ ⟨P0,AP _ _⟩ h
 refine Au<|Au<|Bx rfl rfl<|Ac rfl<|Au<|Au<|Au<|Au<|Bx rfl rfl<|Ac rfl<|Au<|Au<|Au<|Au<|Au<|Bx rfl rfl<|Ac rfl<|Au<|Au<|Au<|Au<|Au<|Bx rfl rfl<|Aa ?_
 exact k1 true _ _ ⟨rfl,rfl,rfl,rfl,rfl,rfl,rfl,rfl,rfl,trivial⟩ ⟨P0,AP _ _⟩ h
 refine Au<|Au<|Bx rfl rfl<|Ac rfl<|Au<|Au<|Bx rfl rfl<|Ac rfl<|Au<|Au<|Au<|Au<|Bx rfl rfl<|Ac rfl<|Au<|Au<|Au<|Au<|Au<|Bx rfl rfl<|Ac rfl<|Au<|Au<|Au ?_
 refine Au<|Au<|Bx rfl rfl<|Aa ?_
 exact k1 true _ _ ⟨rfl,rfl,rfl,rfl,rfl,rfl,rfl,rfl,rfl,trivial⟩ ⟨P0,AP _ _⟩ h
 refine Ae<|Af rfl<|Aa<|Ak rfl<|AQ hb0 Tryz.func7 rfl rfl ?_
 cases h
 exact M0.gv
end Go.Proofs.YtfccehcnajelgaaGreatDoor
