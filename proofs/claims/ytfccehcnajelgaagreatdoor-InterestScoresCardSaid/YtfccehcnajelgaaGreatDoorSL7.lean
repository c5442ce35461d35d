/- Functions of the program, and what they give: part 7. -/
import Derived.Test.YtfccehcnajelgaaGreatDoorSL6
namespace Go.Proofs.YtfccehcnajelgaaGreatDoor
open Go Go.RowKit
set_option maxRecDepth 4000
set_option maxHeartbeats 4000000

def tb18_5:List (Nat × Nat × Nat):=[(0,268435456,64),(1,536870912,268435456),(2,1073741824,536870912),(4,2147483648,1073741824),(0,4294967296,64),(16,8589934592,4294967296),(32,17179869184,8589934592),(64,34359738368,17179869184),(128,68719476736,34359738368),(264,137438953472,70866960384),(512,274877906944,137438953472),(1024,549755813888,274877906944),(0,1099511627776,4),(0,2199023255552,64),(8192,4398046511104,2199023255552),(20480,8796093022208,5497558138880),(34816,17592186044416,9345848836096),(0,128,0),(262143,0,17592186044544)]
def tb18_11:List (Nat × Nat × Nat):=[(0,590295810358705651712,128),(1,1180591620717411303424,590295810358705651712),(0,2361183241434822606848,4),(0,4722366482869645213696,64),(8,9444732965739290427392,4722366482869645213696),(16,18889465931478580854784,9444732965739290427392),(0,37778931862957161709568,256),(96,75557863725914323419136,56668397794435742564352),(132,151115727451828646838272,77919046967349146025984),(256,302231454903657293676544,151115727451828646838272),(512,604462909807314587353088,302231454903657293676544),(1282,1208925819614629174706176,605643501428031998656512),(4095,2417851639229258349412352,128),(8191,0,3626777458843887524118528)]
def tb18_16:List (Nat × Nat × Nat):=[(0,79228162514264337593543950336,32),(1,158456325028528675187087900672,79228162514264337593543950336),(0,316912650057057350374175801344,32),(4,633825300114114700748351602688,316912650057057350374175801344),(8,1267650600228229401496703205376,633825300114114700748351602688),(0,2535301200456458802993406410752,32),(32,5070602400912917605986812821504,2535301200456458802993406410752),(64,10141204801825835211973625643008,5070602400912917605986812821504),(0,20282409603651670423947251286016,32),(256,40564819207303340847894502572032,20282409603651670423947251286016),(512,81129638414606681695789005144064,40564819207303340847894502572032),(1168,162259276829213363391578010288128,92538493816660746309259333992448),(2048,324518553658426726783156020576256,162259276829213363391578010288128),(4098,649037107316853453566312041152512,324677009983455255458343108476928),(16383,1298074214633706907132624082305024,32),(32767,0,1947111321950560360698936123457536)]
theorem body53:bodyB Tryz.prog 53 = true:=by kernel_rfl
def wardmoteref22_Draft_Roll_l1 (n:Nat) (a0:TDraft50) (t0:Int) (d0:Nat × (List Int) → Option (List Int)):Nat × (List Int) → Option (List Int)
  | (b0,c0)=>(if b0 < ((a0.fe % (3:UInt8)).toNat) then (chk (9 * t0)).bind fun g0=>(chk (g0 + 7)).bind fun j0=>(chk (j0 + ((b0:Nat):Int))).bind fun k0=>(wardmoteref22_Draft_num_p n a0 k0).bind fun s0=>(remI s0 3).bind fun p0=>(app c0 ([p0]:List Int)).bind fun q0=>d0 (b0 + 1,q0) else some c0)
def wardmoteref22_Draft_Roll_l2 (_n:Nat) (a0:TDraft50) (d0:Nat × (List TUnit) → Option (List TUnit)):Nat × (List TUnit) → Option (List TUnit)
  | (b0,c0)=>(if b0 < ((a0.fu % (2:UInt8)).toNat) then (mk (((a0.fh % (3:UInt8)).toNat:Nat):Int) (0:Int)).bind fun g0=>(mk (((a0.fc % (4:UInt8)).toNat:Nat):Int) (0:Int)).bind fun j0=>(mk (((a0.fe % (3:UInt8)).toNat:Nat):Int) (0:Int)).bind fun k0=>(app c0 ([(⟨⟨#[115,101,97]⟩,(0:Int),g0,j0,k0,true⟩:TUnit)]:List TUnit)).bind fun p0=>d0 (b0 + 1,p0) else some c0)
def wardmoteref22_Draft_Roll_l3 (n:Nat) (a1:Int) (a0:TDraft50) (g0:Int × (List TUnit) → Option (List TUnit)):Int × (List TUnit) → Option (List TUnit)
  | (b0,c0)=>(if b0 < a1 then (remI b0 26).bind fun j0=>(chk (97 + j0)).bind fun k0=>(quoI b0 26).bind fun p0=>(remI p0 26).bind fun q0=>(chk (97 + q0)).bind fun s0=>(chk (9 * b0)).bind fun t0=>(wardmoteref22_Draft_num_p n a0 t0).bind fun d0=>(sadd ⟨#[117]⟩ (bstr ([u8ofI k0,u8ofI s0]:List UInt8))).bind fun u0=>(chk (9 * b0)).bind fun v0=>(chk (v0 + 1)).bind fun x0=>(wardmoteref22_Draft_list_p n a0 (((a0.fh % (3:UInt8)).toNat:Nat):Int) x0 d0).bind fun D0=>(chk (9 * b0)).bind fun y0=>(chk (y0 + 3)).bind fun z0=>(wardmoteref22_Draft_list_p n a0 (((a0.fc % (4:UInt8)).toNat:Nat):Int) z0 (255:Int)).bind fun E0=>Option.bind (loopF (wardmoteref22_Draft_Roll_l1 n a0 b0) n (0,([]:List Int))) (fun B0=>(app c0 ([(⟨u0,d0,D0,E0,B0,false⟩:TUnit)]:List TUnit)).bind fun C0=>(chk (b0 + 1)).bind fun A0=>g0 (A0,C0)) else some c0)
def wardmoteref22_Draft_Roll_p (n:Nat) (a0:TDraft50) (a1:Int):Option TRoll:=
  Option.bind (loopF (wardmoteref22_Draft_Roll_l3 n a1 a0) n (0,([]:List TUnit))) (fun c0=>Option.bind (loopF (wardmoteref22_Draft_Roll_l2 n a0) n (0,c0)) (fun b0=>some (⟨(((a0.fh % (3:UInt8)).toNat:Nat):Int),(((a0.fc % (4:UInt8)).toNat:Nat):Int),(((a0.fe % (3:UInt8)).toNat:Nat):Int),b0⟩:TRoll)))
theorem wardmoteref22_Draft_Roll_c (n:Nat) (L:List Nat) (w:World) (hL:∀ b ∈ L,b < w.heap.size) (a0:TDraft50) {v0_4:Value} (h0_4:Rep.R w L [v0_4] a0.fNums) (a1:Int)  {r:TRoll} (h:wardmoteref22_Draft_Roll_p n a0 a1 = some r) :
    Calls Tryz.prog 18 #[.agg #[.int .u8 (a0.fh.toNat:Int),.int .u8 (a0.fc.toNat:Int),.int .u8 (a0.fe.toNat:Int),.int .u8 (a0.fu.toNat:Int),v0_4],vI a1] w (Gives w fun w' u=>∃ v0_3:Value,u = .agg #[vI r.fh,vI r.fc,vI r.fe,v0_3]∧Rep.R w' L [v0_3] r.fo):=by
 unfold wardmoteref22_Draft_Roll_p at h
 have hS0:=Ay w
 refine AC Tryz.func18 rfl rfl rfl (fun _ cs0 hb0=>?_)
 refine Ac<|Al .plain rfl (Ax hS0 rfl rfl) (fun F9 g0 C4 k9=>?_)
 refine Al .plain rfl (AA [vI 0,vI 0,vI 0,vN] C4) (fun K9 j0 X1 p9=>?_)
 refine Aa<|Ac<|Bd 0 rfl<|AZ rfl ((X1.memA (.tl .hd)) 0 _ rfl)<|Ab (FV.rem8 (a:=a0.fh) (b:=(3:UInt8)) rfl rfl (by decide)) ?_
 have x9:=(a0.fh % (3:UInt8)).toNat_lt
 refine Ab (FV.convN (i:=(a0.fh % (3:UInt8)).toNat) Tryz.underlying5 Tryz.underlying3 rfl (by omega))<|Bd 1 rfl<|AZ rfl ((X1.memA (.tl .hd)) 1 _ rfl)<|Ab (FV.rem8 (a:=a0.fc) (b:=(4:UInt8)) rfl rfl (by decide)) ?_
 have y9:=(a0.fc % (4:UInt8)).toNat_lt
 refine Ab (FV.convN (i:=(a0.fc % (4:UInt8)).toNat) Tryz.underlying5 Tryz.underlying3 rfl (by omega))<|Bd 2 rfl<|AZ rfl ((X1.memA (.tl .hd)) 2 _ rfl)<|Ab (FV.rem8 (a:=a0.fe) (b:=(3:UInt8)) rfl rfl (by decide)) ?_
 have z9:=(a0.fe % (3:UInt8)).toNat_lt
 refine Ab (FV.convN (i:=(a0.fe % (3:UInt8)).toNat) Tryz.underlying5 Tryz.underlying3 rfl (by omega))<|Ab (AV (vs:=[vI (((a0.fh % (3:UInt8)).toNat:Nat):Int),vI (((a0.fc % (4:UInt8)).toNat:Nat):Int),vI (((a0.fe % (3:UInt8)).toNat:Nat):Int)]) (u:=.agg #[vI (((a0.fh % (3:UInt8)).toNat:Nat):Int),vI (((a0.fc % (4:UInt8)).toNat:Nat):Int),vI (((a0.fe % (3:UInt8)).toNat:Nat):Int),vN]) (e3 rfl rfl rfl) (fun w9=>by kernel_rfl))<|Al .plain rfl (AA [vI 0,vI 0,vI 0,vN] X1) (fun M9 p0 D4 q9=>?_)
 refine AX [vI (((a0.fh % (3:UInt8)).toNat:Nat):Int),vI (((a0.fc % (4:UInt8)).toNat:Nat):Int),vI (((a0.fe % (3:UInt8)).toNat:Nat):Int),vN] D4 .hd (onesB rfl) (fun s8 g3 s9=>?_)
 refine Aa<|Aj<|Ac<|Af rfl<|Aa<|Ar ?_
 have y2:=g3.nilRow 96 (Rep.size TUnit)
 have t9:=St.nilRowT g3 96 (Rep.size TUnit)
 have x5:=AB (cs:=[]) (xs:=([]:List TUnit)) y2 L (AN _ _)
 have j3:=y2.nilRow 96 (Rep.size TUnit)
 have W4:=St.nilRowT y2 96 (Rep.size TUnit)
 have u9:=AB (cs:=[]) (xs:=([]:List TUnit)) j3 L (AN _ _)
 have A6:=AD x5 W4
 obtain ⟨B9,M6,H5⟩:=bind_in2 h
 refine Be (α:=Int × (List TUnit) × Value × (List Value)) (fun ⟨P0,y0,d0,z0⟩=>[(1,vI a1),(2,vP g0),(4,vP j0),(5,vP p0),(6,vI P0)]) (fun ⟨P0,y0,d0,z0⟩ P1=>St w P1 [.row w.heap.size 96 (Rep.size TUnit) vN (([]:List TUnit).length) [],.row w.heap.size 96 (Rep.size TUnit) d0 y0.length z0,.cells p0 [vI (((a0.fh % (3:UInt8)).toNat:Nat):Int),vI (((a0.fc % (4:UInt8)).toNat:Nat):Int),vI (((a0.fe % (3:UInt8)).toNat:Nat):Int),d0] 58,.cells j0 [vI 0,vI 0,vI 0,vN] 58,.cells g0 [.int .u8 (a0.fh.toNat:Int),.int .u8 (a0.fc.toNat:Int),.int .u8 (a0.fe.toNat:Int),.int .u8 (a0.fu.toNat:Int),v0_4] 51]∧Tr s8 [.row w.heap.size 96 (Rep.size TUnit) vN (([]:List TUnit).length) [],.row w.heap.size 96 (Rep.size TUnit) vN (([]:List TUnit).length) [],.cells p0 [vI (((a0.fh % (3:UInt8)).toNat:Nat):Int),vI (((a0.fc % (4:UInt8)).toNat:Nat):Int),vI (((a0.fe % (3:UInt8)).toNat:Nat):Int),vN] 58,.cells j0 [vI 0,vI 0,vI 0,vN] 58,.cells g0 [.int .u8 (a0.fh.toNat:Int),.int .u8 (a0.fc.toNat:Int),.int .u8 (a0.fe.toNat:Int),.int .u8 (a0.fu.toNat:Int),v0_4] 51] P1 [.row w.heap.size 96 (Rep.size TUnit) vN (([]:List TUnit).length) [],.row w.heap.size 96 (Rep.size TUnit) d0 y0.length z0,.cells p0 [vI (((a0.fh % (3:UInt8)).toNat:Nat):Int),vI (((a0.fc % (4:UInt8)).toNat:Nat):Int),vI (((a0.fe % (3:UInt8)).toNat:Nat):Int),d0] 58,.cells j0 [vI 0,vI 0,vI 0,vN] 58,.cells g0 [.int .u8 (a0.fh.toNat:Int),.int .u8 (a0.fc.toNat:Int),.int .u8 (a0.fe.toNat:Int),.int .u8 (a0.fu.toNat:Int),v0_4] 51]∧Cells P1 (bl [.row w.heap.size 96 (Rep.size TUnit) vN (([]:List TUnit).length) [],.row w.heap.size 96 (Rep.size TUnit) d0 y0.length z0,.cells p0 [vI (((a0.fh % (3:UInt8)).toNat:Nat):Int),vI (((a0.fc % (4:UInt8)).toNat:Nat):Int),vI (((a0.fe % (3:UInt8)).toNat:Nat):Int),d0] 58,.cells j0 [vI 0,vI 0,vI 0,vN] 58,.cells g0 [.int .u8 (a0.fh.toNat:Int),.int .u8 (a0.fc.toNat:Int),.int .u8 (a0.fe.toNat:Int),.int .u8 (a0.fu.toNat:Int),v0_4] 51] ++ L) z0 y0) (fun ⟨P0,y0,d0,z0⟩=>(P0,y0)) (0,([]:List TUnit),vN,[]) M6 ⟨rfl,rfl,rfl,rfl,rfl,trivial⟩ ⟨j3,AT _ _,A6⟩ ?_
 rintro M8 ⟨P0,y0,d0,z0⟩ P1 s4 ⟨J1,X4,D3⟩ h
 unfold wardmoteref22_Draft_Roll_l3 at h
 try dsimp only at h
 refine Aj<|Ac<|Ae rfl<|Ae rfl<|Ab (FV.lss (i:=P0) (j:=a1) rfl rfl)<|Aa<|AO rfl h (fun d4 h=>?_) (fun d4 h=>?_)
 refine Ao<|Aj<|Ar<|Aj<|dt 18 tb18_5 (fun q0 u0=>?_)
 refine Ag 0 1 q0 rfl u0 (fun _=>Ai rfl) rfl ?_
 obtain ⟨W7,j7,h⟩:=bi h
 refine Ag 1 3 q0 rfl u0 (fun _=>FV.remc (i:=P0) (j:=26) rfl rfl j7) rfl ?_
 obtain ⟨G0,k7,h⟩:=bi h
 refine Ag 2 7 q0 rfl u0 (fun _=>FV.addc (i:=97) (j:=W7) rfl rfl k7) rfl<|Ag 3 15 q0 rfl u0 (fun _=>FV.convU8 (i:=G0) Tryz.underlying3 Tryz.underlying5 rfl) rfl<|Ag 4 31 q0 rfl u0 (fun _=>Ai rfl) rfl ?_
 obtain ⟨X7,p7,h⟩:=bi h
 refine Ag 5 63 q0 rfl u0 (fun _=>FV.quoc (i:=P0) (j:=26) rfl rfl p7) rfl ?_
 obtain ⟨Y7,q7,h⟩:=bi h
 refine Ag 6 127 q0 rfl u0 (fun _=>FV.remc (i:=X7) (j:=26) rfl rfl q7) rfl ?_
 obtain ⟨x0,s7,h⟩:=bi h
 refine Ag 7 255 q0 rfl u0 (fun _=>FV.addc (i:=97) (j:=Y7) rfl rfl s7) rfl<|Ag 8 511 q0 rfl u0 (fun _=>FV.convU8 (i:=x0) Tryz.underlying3 Tryz.underlying5 rfl) rfl<|AF 12 4607 360448 q0 rfl u0 (AJ rfl (J1.memA (.tl (.tl (.tl (.tl .hd)))))) rfl<|Ag 13 12799 q0 rfl u0 (fun _=>Ai rfl) rfl ?_
 obtain ⟨Z7,t7,h⟩:=bi h
 refine Ag 14 29183 q0 rfl u0 (fun _=>FV.mulc (i:=9) (j:=P0) rfl rfl t7) rfl ?_
 obtain ⟨s0,Q7,h⟩:=bi h
 refine RD.cq 15 61951 327680 (vI s0) q0 rfl u0 body52 rfl (e2 rfl rfl) (fun w9 hw9=>wardmoteref22_Draft_num_c n _ w9 (J1.hL0 hL hw9) a0 (J1.k0 h0_4 hw9) Z7 Q7) rfl ?_
 obtain ⟨t0,Y3,h⟩:=bi h
 refine RD.meet (α:=Nat) (fun k1=>[(1,vI a1),(2,vP g0),(4,vP j0),(5,vP p0),(6,vI P0),(44,.agg #[.string t0,vI s0,vN,vN,vN,.bool false]),(7,vP k1)]) (fun k1 b3=>St w b3 [.cells k1 [.string ⟨#[]⟩,vI 0,vN,vN,vN,.bool false] 96,.row w.heap.size 96 (Rep.size TUnit) vN (([]:List TUnit).length) [],.row w.heap.size 96 (Rep.size TUnit) d0 y0.length z0,.cells p0 [vI (((a0.fh % (3:UInt8)).toNat:Nat):Int),vI (((a0.fc % (4:UInt8)).toNat:Nat):Int),vI (((a0.fe % (3:UInt8)).toNat:Nat):Int),d0] 58,.cells j0 [vI 0,vI 0,vI 0,vN] 58,.cells g0 [.int .u8 (a0.fh.toNat:Int),.int .u8 (a0.fc.toNat:Int),.int .u8 (a0.fe.toNat:Int),.int .u8 (a0.fu.toNat:Int),v0_4] 51]∧Tr P1 [.row w.heap.size 96 (Rep.size TUnit) vN (([]:List TUnit).length) [],.row w.heap.size 96 (Rep.size TUnit) d0 y0.length z0,.cells p0 [vI (((a0.fh % (3:UInt8)).toNat:Nat):Int),vI (((a0.fc % (4:UInt8)).toNat:Nat):Int),vI (((a0.fe % (3:UInt8)).toNat:Nat):Int),d0] 58,.cells j0 [vI 0,vI 0,vI 0,vN] 58,.cells g0 [.int .u8 (a0.fh.toNat:Int),.int .u8 (a0.fc.toNat:Int),.int .u8 (a0.fe.toNat:Int),.int .u8 (a0.fu.toNat:Int),v0_4] 51] b3 [.cells k1 [.string ⟨#[]⟩,vI 0,vN,vN,vN,.bool false] 96,.row w.heap.size 96 (Rep.size TUnit) vN (([]:List TUnit).length) [],.row w.heap.size 96 (Rep.size TUnit) d0 y0.length z0,.cells p0 [vI (((a0.fh % (3:UInt8)).toNat:Nat):Int),vI (((a0.fc % (4:UInt8)).toNat:Nat):Int),vI (((a0.fe % (3:UInt8)).toNat:Nat):Int),d0] 58,.cells j0 [vI 0,vI 0,vI 0,vN] 58,.cells g0 [.int .u8 (a0.fh.toNat:Int),.int .u8 (a0.fc.toNat:Int),.int .u8 (a0.fe.toNat:Int),.int .u8 (a0.fu.toNat:Int),v0_4] 51]) 1 262143 ?_ ?_
 rintro k1 b3 ⟨E4,Y4⟩
 try dsimp only
 refine Bv 18 524287 q0 rfl rfl .plain (Av (news:=[.string t0,vI s0,vN,vN,vN,.bool false]) E4 .hd rfl rfl rfl rfl rfl rfl (onesB rfl)) (fun P9 K1 Z4=>?_)
 refine AK (dk q0)<|Ac<|Ab (AJ rfl (K1.memA (.tl (.tl (.tl (.tl (.tl .hd)))))))<|Bd 0 rfl<|Ab (AG rfl ((K1.memA (.tl (.tl (.tl .hd)))) 0 _ rfl))<|Ae rfl ?_
 obtain ⟨b8,u7,h⟩:=bi h
 refine Ab (FV.mulc (i:=9) (j:=P0) rfl rfl u7) ?_
 obtain ⟨c8,v7,h⟩:=bi h
 refine Ab (FV.addc (i:=b8) (j:=1) rfl rfl v7)<|Bd 1 rfl<|AZ rfl ((K1.memA .hd) 1 _ rfl) ?_
 obtain ⟨q2,R7,h⟩:=bi h
 refine Bp (fst:=[]) (cap:=[]) .plain body53 rfl (e4 rfl rfl rfl rfl) (fun w9 hw9=>wardmoteref22_Draft_list_c n _ w9 (K1.hL hL hw9) a0 (K1.km h0_4 hw9) (((a0.fh % (3:UInt8)).toNat:Nat):Int) c8 s0 R7) rfl (fun Q9 Q0 k5 ⟨D9,hu_,c2⟩=>?_)
 subst hu_
 obtain ⟨F4,b5⟩:=K1.agr k5
 refine Bd 2 rfl<|RG.now .plain (Bx (j:=2) (old:=[.string t0,vI s0,vN,vN,vN,.bool false]) (news:=[Q0]) (new' :=[.string t0,vI s0,Q0,vN,vN,.bool false]) F4 .hd rfl rfl rfl (Rep.c1 c2) rfl rfl (o1 (Bg c2)) rfl) (fun R9 Q1 u3=>?_)
 refine Aa<|Ac<|Ab (AJ rfl (Q1.memA (.tl (.tl (.tl (.tl (.tl .hd)))))))<|Bd 1 rfl<|Ab (AG rfl ((Q1.memA (.tl (.tl (.tl .hd)))) 1 _ rfl))<|Ae rfl ?_
 obtain ⟨d8,x7,h⟩:=bi h
 refine Ab (FV.mulc (i:=9) (j:=P0) rfl rfl x7) ?_
 obtain ⟨g8,y7,h⟩:=bi h
 refine Ab (FV.addc (i:=d8) (j:=3) rfl rfl y7) ?_
 obtain ⟨s2,U7,h⟩:=bi h
 refine Bp (fst:=[]) (cap:=[]) .plain body53 rfl (e4 rfl rfl rfl rfl) (fun w9 hw9=>wardmoteref22_Draft_list_c n _ w9 (Q1.hL hL hw9) a0 (Q1.km h0_4 hw9) (((a0.fc % (4:UInt8)).toNat:Nat):Int) g8 (255:Int) U7) rfl (fun U9 Y0 p5 ⟨E9,hu_,d2⟩=>?_)
 subst hu_
 obtain ⟨G4,v3⟩:=Q1.agr p5
 refine Bd 3 rfl<|RG.now .plain (Bx (j:=3) (old:=[.string t0,vI s0,Q0,vN,vN,.bool false]) (news:=[Y0]) (new' :=[.string t0,vI s0,Q0,Y0,vN,.bool false]) G4 .hd rfl rfl rfl (Rep.c1 d2) rfl rfl (o1 (Bg d2)) rfl) (fun x8 k3 R2=>?_)
 refine Aa<|Aj<|Ac<|Af rfl<|Aa<|Ar ?_
 have p3:=k3.nilRow 3 (Rep.size Int)
 have U2:=St.nilRowT k3 3 (Rep.size Int)
 have y5:=AB (cs:=[]) (xs:=([]:List Int)) p3 L (AN _ _)
 obtain ⟨C9,P6,I5⟩:=bind_in2 h
 refine Be (α:=Nat × (List Int) × Value × (List Value)) (fun ⟨z1,W0,K0,E1⟩=>[(1,vI a1),(2,vP g0),(4,vP j0),(5,vP p0),(6,vI P0),(7,vP k1),(8,vI ((z1:Nat):Int))]) (fun ⟨z1,W0,K0,E1⟩ p2=>St w p2 [.row w.heap.size 3 (Rep.size Int) K0 W0.length E1,.cells k1 [.string t0,vI s0,Q0,Y0,K0,.bool false] 96,.row w.heap.size 96 (Rep.size TUnit) vN (([]:List TUnit).length) [],.row w.heap.size 96 (Rep.size TUnit) d0 y0.length z0,.cells p0 [vI (((a0.fh % (3:UInt8)).toNat:Nat):Int),vI (((a0.fc % (4:UInt8)).toNat:Nat):Int),vI (((a0.fe % (3:UInt8)).toNat:Nat):Int),d0] 58,.cells j0 [vI 0,vI 0,vI 0,vN] 58,.cells g0 [.int .u8 (a0.fh.toNat:Int),.int .u8 (a0.fc.toNat:Int),.int .u8 (a0.fe.toNat:Int),.int .u8 (a0.fu.toNat:Int),v0_4] 51]∧Tr x8 [.row w.heap.size 3 (Rep.size Int) vN (([]:List Int).length) [],.cells k1 [.string t0,vI s0,Q0,Y0,vN,.bool false] 96,.row w.heap.size 96 (Rep.size TUnit) vN (([]:List TUnit).length) [],.row w.heap.size 96 (Rep.size TUnit) d0 y0.length z0,.cells p0 [vI (((a0.fh % (3:UInt8)).toNat:Nat):Int),vI (((a0.fc % (4:UInt8)).toNat:Nat):Int),vI (((a0.fe % (3:UInt8)).toNat:Nat):Int),d0] 58,.cells j0 [vI 0,vI 0,vI 0,vN] 58,.cells g0 [.int .u8 (a0.fh.toNat:Int),.int .u8 (a0.fc.toNat:Int),.int .u8 (a0.fe.toNat:Int),.int .u8 (a0.fu.toNat:Int),v0_4] 51] p2 [.row w.heap.size 3 (Rep.size Int) K0 W0.length E1,.cells k1 [.string t0,vI s0,Q0,Y0,K0,.bool false] 96,.row w.heap.size 96 (Rep.size TUnit) vN (([]:List TUnit).length) [],.row w.heap.size 96 (Rep.size TUnit) d0 y0.length z0,.cells p0 [vI (((a0.fh % (3:UInt8)).toNat:Nat):Int),vI (((a0.fc % (4:UInt8)).toNat:Nat):Int),vI (((a0.fe % (3:UInt8)).toNat:Nat):Int),d0] 58,.cells j0 [vI 0,vI 0,vI 0,vN] 58,.cells g0 [.int .u8 (a0.fh.toNat:Int),.int .u8 (a0.fc.toNat:Int),.int .u8 (a0.fe.toNat:Int),.int .u8 (a0.fu.toNat:Int),v0_4] 51]∧Cells p2 (bl [.row w.heap.size 3 (Rep.size Int) K0 W0.length E1,.cells k1 [.string t0,vI s0,Q0,Y0,K0,.bool false] 96,.row w.heap.size 96 (Rep.size TUnit) vN (([]:List TUnit).length) [],.row w.heap.size 96 (Rep.size TUnit) d0 y0.length z0,.cells p0 [vI (((a0.fh % (3:UInt8)).toNat:Nat):Int),vI (((a0.fc % (4:UInt8)).toNat:Nat):Int),vI (((a0.fe % (3:UInt8)).toNat:Nat):Int),d0] 58,.cells j0 [vI 0,vI 0,vI 0,vN] 58,.cells g0 [.int .u8 (a0.fh.toNat:Int),.int .u8 (a0.fc.toNat:Int),.int .u8 (a0.fe.toNat:Int),.int .u8 (a0.fu.toNat:Int),v0_4] 51] ++ L) E1 W0) (fun ⟨z1,W0,K0,E1⟩=>(z1,W0)) (0,([]:List Int),vN,[]) P6 ⟨rfl,rfl,rfl,rfl,rfl,rfl,rfl,trivial⟩ ⟨p3,AT _ _,y5⟩ ?_
 rintro P8 ⟨z1,W0,K0,E1⟩ p2 t4 ⟨b1,Z1,E3⟩ h
 unfold wardmoteref22_Draft_Roll_l1 at h
 try dsimp only at h
 refine Aj<|Ac<|Ae rfl<|Bd 2 rfl<|Ab (AG rfl ((b1.memA (.tl (.tl (.tl (.tl .hd))))) 2 _ rfl))<|Ab (Bf (i:=z1) (j:=(a0.fe % (3:UInt8)).toNat) rfl rfl)<|Aa<|AO rfl h (fun g4 h=>?_) (fun g4 h=>?_)
 refine Ao<|Aj<|Ar<|dt 11 tb18_11 (fun v0 x1=>?_)
 refine Ag 0 1 v0 rfl x1 (fun _=>Bi 4 rfl) rfl<|AF 1 3 14336 v0 rfl x1 (AG rfl ((b1.memA (.tl .hd)) 4 _ rfl)) rfl<|AF 2 7 16128 v0 rfl x1 (AJ rfl (b1.memA (.tl (.tl (.tl (.tl (.tl (.tl .hd)))))))) rfl<|Ag 3 15 v0 rfl x1 (fun _=>Ai rfl) rfl ?_
 obtain ⟨j8,z7,h⟩:=bi h
 refine Ag 4 31 v0 rfl x1 (fun _=>FV.mulc (i:=9) (j:=P0) rfl rfl z7) rfl ?_
 obtain ⟨k8,A7,h⟩:=bi h
 refine Ag 5 63 v0 rfl x1 (fun _=>FV.addc (i:=j8) (j:=7) rfl rfl A7) rfl<|Ag 6 127 v0 rfl x1 (fun _=>Ai rfl) rfl ?_
 obtain ⟨p8,B7,h⟩:=bi h
 refine Ag 7 255 v0 rfl x1 (fun _=>FV.addc (i:=k8) (j:=((z1:Nat):Int)) rfl rfl B7) rfl ?_
 obtain ⟨Z3,V7,h⟩:=bi h
 refine RD.cq 8 511 15872 (vI Z3) v0 rfl x1 body52 rfl (e2 rfl rfl) (fun w9 hw9=>wardmoteref22_Draft_num_c n _ w9 (b1.hL0 hL hw9) a0 (b1.k0 h0_4 hw9) p8 V7) rfl ?_
 obtain ⟨G1,C7,h⟩:=bi h
 refine Ag 9 1023 v0 rfl x1 (fun _=>FV.remc (i:=Z3) (j:=3) rfl rfl C7) rfl<|RD.nu 10 2047 v0 rfl .plain rfl (AY (α:=Int) (xs:=([G1]:List Int)) (vs:=[vI G1]) (ds' :=[vI G1]) rfl b1 el52 rfl (e1 rfl) (by kernel_rfl) rfl) (fun V9 R8 A2 x3=>?_)
 have z5:=AB (cs:=[vI G1]) (xs:=(([G1]:List Int):List Int)) A2 L (Aq (cs:=[vI G1]) (ds:=[]) rfl (AN _ _))
 obtain ⟨z8,M7,h⟩:=bi h
 have B6:=AD E3 x3
 refine By (i:=11) (rk v0) (RO.doesL (m' :=4095) (sk v0) rfl rfl .plain rfl (DoesL.app (α:=Int) (ys:=([G1]:List Int)) M7 A2 (fun _ _=>(.tl .hd)) el52 rfl rfl B6 (Src.row (α:=Int) A2 .hd z5)) (fun Y2 W9 ⟨k4,B2,c5,A5⟩=>?_))
 refine By (i:=12) (rk v0) (RO.val (m' :=8191) (sk v0) rfl .plain rfl (Bi 4 rfl) ?_)
 refine Bv 13 16383 v0 rfl rfl .plain (Bx (j:=4) (old:=[.string t0,vI s0,Q0,Y0,K0,.bool false]) (news:=[Y2]) (new' :=[.string t0,vI s0,Q0,Y0,Y2,.bool false]) B2 (.tl (.tl .hd)) rfl rfl rfl (St.c1 (α:=Int) B2 (.tl .hd)) rfl rfl (o1 (St.o1 (α:=Int) B2 (.tl .hd))) rfl) (fun X9 H4 y3=>?_)
 refine AK (dk v0)<|Au<|Am<|Ae rfl<|Ab (Bh (i:=z1) (j:=1) rfl rfl (by omega))<|Af rfl<|Aa ?_
 obtain ⟨I4,z3⟩:=AL H4 (.one (.tl .hd) (.one (.tl .hd) (.one (.tl .hd) (.one (.tl .hd) (.one (.tl .hd) (.one (.tl .hd) (.one (.tl .hd) .done)))))))
 have C6:=AD A5 (Tt y3 z3)
 have U6:=Tt x3 (Tt c5 (Tt y3 z3))
 exact t4 (z1 + 1,z8,Y2,k4) _ _ ⟨rfl,rfl,rfl,rfl,rfl,rfl,rfl,trivial⟩ ⟨I4,(Tt Z1 U6),C6⟩ h
 refine AW rfl ?_
 have h:=I5 _ h
 try dsimp only at h
 refine Am<|Bd 3 rfl<|Ab (AG rfl ((b1.memA (.tl (.tl (.tl (.tl .hd))))) 3 _ rfl))<|Ab (AJ rfl (b1.memA (.tl .hd))) ?_
 have g7:=Bu (α:=Int) b1 .hd E3 hL
 have q3:=St.delS b1 .hd
 have V2:=St.delT b1 .hd
 have X3:=Rep.at_ (α:=Int) (v:=K0) (xs:=W0) q3 L g7
 have P3:=Tt u3 (Tt v3 (Tt R2 (Tt U2 (Tt Z1 V2))))
 have D6:=Az c2 P3
 have Q3:=Tt R2 (Tt U2 (Tt Z1 V2))
 have E6:=Az d2 Q3
 obtain ⟨H8,c9,H7,_⟩:=Rep.sl D6
 obtain ⟨I8,d9,I7,_⟩:=Rep.sl E6
 obtain ⟨J8,g9,J7,_⟩:=Rep.sl X3
 refine Al .plain rfl (AY (α:=TUnit) (xs:=([(⟨t0,s0,q2,s2,W0,false⟩:TUnit)]:List TUnit)) (vs:=[.agg #[.string t0,vI s0,Q0,Y0,K0,.bool false]]) (ds' :=[.string t0,vI s0,Q0,Y0,K0,.bool false]) rfl q3 el56 rfl (e1 rfl) (by rw [H7,I7,J7]; try kernel_rfl) rfl) (fun Y9 U8 C2 b2=>?_)
 have F6:=Az c2 (Tt P3 b2)
 have G6:=Az d2 (Tt Q3 b2)
 have H6:=Az X3 b2
 have B5:=AB (cs:=[.string t0,vI s0,Q0,Y0,K0,.bool false]) (xs:=(([(⟨t0,s0,q2,s2,W0,false⟩:TUnit)]:List TUnit):List TUnit)) C2 L (Aq (cs:=[.string t0,vI s0,Q0,Y0,K0,.bool false]) (ds:=[]) (mk_TUnit t0 s0 q2 F6 s2 G6 W0 H6 false) (AN _ _))
 obtain ⟨A8,P7,h⟩:=bi h
 have R3:=Tt Y4 (Tt Z4 (Tt b5 (Tt u3 (Tt v3 (Tt R2 (Tt U2 (Tt Z1 (Tt V2 b2))))))))
 have I6:=AD D3 R3
 refine RG.doesL .plain rfl (DoesL.app (α:=TUnit) (ys:=([(⟨t0,s0,q2,s2,W0,false⟩:TUnit)]:List TUnit)) P7 C2 (fun _ _=>(.tl (.tl (.tl .hd)))) el56 rfl rfl I6 (Src.row (α:=TUnit) C2 .hd B5)) (fun Z2 Z9 ⟨p4,D2,d5,C5⟩=>?_)
 refine Bd 3 rfl<|RG.now .plain (Bx (j:=3) (old:=[vI (((a0.fh % (3:UInt8)).toNat:Nat):Int),vI (((a0.fc % (4:UInt8)).toNat:Nat):Int),vI (((a0.fe % (3:UInt8)).toNat:Nat):Int),d0]) (news:=[Z2]) (new' :=[vI (((a0.fh % (3:UInt8)).toNat:Nat):Int),vI (((a0.fc % (4:UInt8)).toNat:Nat):Int),vI (((a0.fe % (3:UInt8)).toNat:Nat):Int),Z2]) D2 (.tl (.tl (.tl (.tl .hd)))) rfl rfl rfl (St.c1 (α:=TUnit) D2 (.tl (.tl (.tl .hd)))) rfl rfl (o1 (St.o1 (α:=TUnit) D2 (.tl (.tl (.tl .hd))))) rfl) (fun b00 J4 A3=>?_)
 refine Aa<|Au<|Am<|Ae rfl ?_
 obtain ⟨q8,D7,h⟩:=bi h
 refine Ab (FV.addc (i:=P0) (j:=1) rfl rfl D7)<|Af rfl<|Aa ?_
 obtain ⟨K4,B3⟩:=AL J4 (.one (.tl (.tl .hd)) (.one (.tl (.tl .hd)) (.one (.tl (.tl .hd)) (.one (.tl (.tl .hd)) (.one (.tl (.tl .hd)) .done)))))
 have J6:=AD C5 (Tt A3 B3)
 have V6:=Tt R3 (Tt d5 (Tt A3 B3))
 exact s4 (q8,A8,Z2,p4) _ _ ⟨rfl,rfl,rfl,rfl,rfl,trivial⟩ ⟨K4,(Tt X4 V6),J6⟩ h
 intro c3
 refine RD.each [9,17] (rk q0) ⟨?_,?_,trivial⟩
 refine RO.new (m' :=62463) (sk q0) rfl .plain rfl (AY (α:=UInt8) (xs:=([u8ofI G0,u8ofI x0]:List UInt8)) (vs:=[.int .u8 ((u8ofI G0).toNat:Int),.int .u8 ((u8ofI x0).toNat:Int)]) (ds' :=[.int .u8 ((u8ofI G0).toNat:Int),.int .u8 ((u8ofI x0).toNat:Int)]) rfl J1 el46 rfl (e2 rfl rfl) (by kernel_rfl) rfl) (fun t8 b4 F1 P2=>?_)
 have W2:=AB (cs:=[.int .u8 ((u8ofI G0).toNat:Int),.int .u8 ((u8ofI x0).toNat:Int)]) (xs:=(([u8ofI G0,u8ofI x0]:List UInt8):List UInt8)) F1 L (Aq (cs:=[.int .u8 ((u8ofI G0).toNat:Int)]) (ds:=[.int .u8 ((u8ofI x0).toNat:Int)]) rfl (Aq (cs:=[.int .u8 ((u8ofI x0).toNat:Int)]) (ds:=[]) rfl (AN _ _)))
 refine AF 10 63487 329728 q0 rfl u0 (FV.bytesS (xs:=([u8ofI G0,u8ofI x0]:List UInt8)) Tryz.underlying46 Tryz.underlying9 Tryz.underlying5 rfl (Src.row (α:=UInt8) F1 .hd W2)) rfl<|Ag 11 65535 q0 rfl u0 (fun _=>FV.addS Y3 rfl rfl) rfl<|Ag 16 131071 q0 rfl u0 (fun _=>AV (vs:=[.string t0,vI s0]) (u:=.agg #[.string t0,vI s0,vN,vN,vN,.bool false]) (e2 rfl rfl) (fun w9=>by kernel_rfl)) rfl<|RD.nu 17 262143 q0 rfl .plain rfl (AA [.string ⟨#[]⟩,vI 0,vN,vN,vN,.bool false] F1) (fun v8 t2 z2 Q2=>?_)
 obtain ⟨M4,g5⟩:=AL z2 (.one .hd (.one (.tl .hd) (.one (.tl .hd) (.one (.tl .hd) (.one (.tl .hd) (.one (.tl .hd) .done))))))
 have W6:=Tt P2 (Tt Q2 g5)
 exact c3 t2 _ _ ⟨rfl,rfl,rfl,rfl,rfl,rfl,rfl,trivial⟩ ⟨M4,W6⟩
 refine RO.new (m' :=193023) (sk q0) rfl .plain rfl (AA [.string ⟨#[]⟩,vI 0,vN,vN,vN,.bool false] J1) (fun v8 t2 z2 Q2=>?_)
 refine RD.nu 9 193535 q0 rfl .plain rfl (AY (α:=UInt8) (xs:=([u8ofI G0,u8ofI x0]:List UInt8)) (vs:=[.int .u8 ((u8ofI G0).toNat:Int),.int .u8 ((u8ofI x0).toNat:Int)]) (ds' :=[.int .u8 ((u8ofI G0).toNat:Int),.int .u8 ((u8ofI x0).toNat:Int)]) rfl z2 el46 rfl (e2 rfl rfl) (by kernel_rfl) rfl) (fun t8 b4 F1 P2=>?_)
 have W2:=AB (cs:=[.int .u8 ((u8ofI G0).toNat:Int),.int .u8 ((u8ofI x0).toNat:Int)]) (xs:=(([u8ofI G0,u8ofI x0]:List UInt8):List UInt8)) F1 L (Aq (cs:=[.int .u8 ((u8ofI G0).toNat:Int)]) (ds:=[.int .u8 ((u8ofI x0).toNat:Int)]) rfl (Aq (cs:=[.int .u8 ((u8ofI x0).toNat:Int)]) (ds:=[]) rfl (AN _ _)))
 refine AF 10 194559 329728 q0 rfl u0 (FV.bytesS (xs:=([u8ofI G0,u8ofI x0]:List UInt8)) Tryz.underlying46 Tryz.underlying9 Tryz.underlying5 rfl (Src.row (α:=UInt8) F1 .hd W2)) rfl<|Ag 11 196607 q0 rfl u0 (fun _=>FV.addS Y3 rfl rfl) rfl<|Ag 16 262143 q0 rfl u0 (fun _=>AV (vs:=[.string t0,vI s0]) (u:=.agg #[.string t0,vI s0,vN,vN,vN,.bool false]) (e2 rfl rfl) (fun w9=>by kernel_rfl)) rfl ?_
 obtain ⟨P4,j5⟩:=AL F1 (.one (.tl .hd) (.one (.tl .hd) (.one (.tl .hd) (.one (.tl .hd) (.one (.tl .hd) (.one (.tl .hd) .done))))))
 have X6:=Tt Q2 (Tt P2 j5)
 exact c3 t2 _ _ ⟨rfl,rfl,rfl,rfl,rfl,rfl,rfl,trivial⟩ ⟨P4,X6⟩
 refine AW rfl ?_
 have h:=H5 _ h
 try dsimp only at h
 refine Aj<|Ac<|Af rfl<|Aa<|Ar ?_
 obtain ⟨A9,K6,G5⟩:=bind_in2 h
 refine Be (α:=Nat × (List TUnit) × Value × (List Value)) (fun ⟨y1,M0,c0,R0⟩=>[(2,vP g0),(4,vP j0),(5,vP p0),(9,vI ((y1:Nat):Int))]) (fun ⟨y1,M0,c0,R0⟩ R1=>St w R1 [.row w.heap.size 96 (Rep.size TUnit) vN (([]:List TUnit).length) [],.row w.heap.size 96 (Rep.size TUnit) c0 M0.length R0,.cells p0 [vI (((a0.fh % (3:UInt8)).toNat:Nat):Int),vI (((a0.fc % (4:UInt8)).toNat:Nat):Int),vI (((a0.fe % (3:UInt8)).toNat:Nat):Int),c0] 58,.cells j0 [vI 0,vI 0,vI 0,vN] 58,.cells g0 [.int .u8 (a0.fh.toNat:Int),.int .u8 (a0.fc.toNat:Int),.int .u8 (a0.fe.toNat:Int),.int .u8 (a0.fu.toNat:Int),v0_4] 51]∧Tr P1 [.row w.heap.size 96 (Rep.size TUnit) vN (([]:List TUnit).length) [],.row w.heap.size 96 (Rep.size TUnit) d0 y0.length z0,.cells p0 [vI (((a0.fh % (3:UInt8)).toNat:Nat):Int),vI (((a0.fc % (4:UInt8)).toNat:Nat):Int),vI (((a0.fe % (3:UInt8)).toNat:Nat):Int),d0] 58,.cells j0 [vI 0,vI 0,vI 0,vN] 58,.cells g0 [.int .u8 (a0.fh.toNat:Int),.int .u8 (a0.fc.toNat:Int),.int .u8 (a0.fe.toNat:Int),.int .u8 (a0.fu.toNat:Int),v0_4] 51] R1 [.row w.heap.size 96 (Rep.size TUnit) vN (([]:List TUnit).length) [],.row w.heap.size 96 (Rep.size TUnit) c0 M0.length R0,.cells p0 [vI (((a0.fh % (3:UInt8)).toNat:Nat):Int),vI (((a0.fc % (4:UInt8)).toNat:Nat):Int),vI (((a0.fe % (3:UInt8)).toNat:Nat):Int),c0] 58,.cells j0 [vI 0,vI 0,vI 0,vN] 58,.cells g0 [.int .u8 (a0.fh.toNat:Int),.int .u8 (a0.fc.toNat:Int),.int .u8 (a0.fe.toNat:Int),.int .u8 (a0.fu.toNat:Int),v0_4] 51]∧Cells R1 (bl [.row w.heap.size 96 (Rep.size TUnit) vN (([]:List TUnit).length) [],.row w.heap.size 96 (Rep.size TUnit) c0 M0.length R0,.cells p0 [vI (((a0.fh % (3:UInt8)).toNat:Nat):Int),vI (((a0.fc % (4:UInt8)).toNat:Nat):Int),vI (((a0.fe % (3:UInt8)).toNat:Nat):Int),c0] 58,.cells j0 [vI 0,vI 0,vI 0,vN] 58,.cells g0 [.int .u8 (a0.fh.toNat:Int),.int .u8 (a0.fc.toNat:Int),.int .u8 (a0.fe.toNat:Int),.int .u8 (a0.fu.toNat:Int),v0_4] 51] ++ L) R0 M0) (fun ⟨y1,M0,c0,R0⟩=>(y1,M0)) (0,y0,d0,z0) K6 ⟨rfl,rfl,rfl,rfl,trivial⟩ ⟨J1,AT _ _,D3⟩ ?_
 rintro K8 ⟨y1,M0,c0,R0⟩ R1 q4 ⟨Z0,Q4,C3⟩ h
 unfold wardmoteref22_Draft_Roll_l2 at h
 try dsimp only at h
 refine Aj<|Ac<|Ae rfl<|Bd 3 rfl<|Ab (AG rfl ((Z0.memA (.tl (.tl (.tl (.tl .hd))))) 3 _ rfl))<|Ab (FV.rem8 (a:=a0.fu) (b:=(2:UInt8)) rfl rfl (by decide)) ?_
 have v9:=(a0.fu % (2:UInt8)).toNat_lt
 refine Ab (FV.convN (i:=(a0.fu % (2:UInt8)).toNat) Tryz.underlying5 Tryz.underlying3 rfl (by omega))<|Ab (Bf (i:=y1) (j:=(a0.fu % (2:UInt8)).toNat) rfl rfl)<|Aa<|AO rfl h (fun c4 h=>?_) (fun c4 h=>?_)
 refine Ao<|Aj<|Ar<|dt 13 tb18_16 (fun b0 A1=>?_)
 refine Ag 0 1 b0 rfl A1 (fun _=>Bi 3 rfl) rfl<|AF 1 3 57344 b0 rfl A1 (AG rfl ((Z0.memA (.tl (.tl .hd))) 3 _ rfl)) rfl<|Ag 2 7 b0 rfl A1 (fun _=>Bi 0 rfl) rfl<|AF 3 15 63504 b0 rfl A1 (AG rfl ((Z0.memA (.tl (.tl .hd))) 0 _ rfl)) rfl<|Ag 5 47 b0 rfl A1 (fun _=>Bi 1 rfl) rfl<|AF 6 111 63616 b0 rfl A1 (AG rfl ((Z0.memA (.tl (.tl .hd))) 1 _ rfl)) rfl<|Ag 8 367 b0 rfl A1 (fun _=>Bi 2 rfl) rfl<|AF 9 879 64512 b0 rfl A1 (AG rfl ((Z0.memA (.tl (.tl .hd))) 2 _ rfl)) rfl ?_
 obtain ⟨A0,t1,h⟩:=bi h
 obtain ⟨B0,u1,h⟩:=bi h
 obtain ⟨C0,v1,h⟩:=bi h
 refine RD.meet (α:=Value × (List Value) × Value × (List Value) × Value × (List Value)) (fun ⟨H0,B1,I0,C1,J0,D1⟩=>[(2,vP g0),(4,vP j0),(5,vP p0),(9,vI ((y1:Nat):Int)),(97,c0),(100,J0),(103,I0),(106,H0)]) (fun ⟨H0,B1,I0,C1,J0,D1⟩ M1=>St w M1 [.row w.heap.size 3 (Rep.size Int) H0 C0.length B1,.row w.heap.size 3 (Rep.size Int) I0 B0.length C1,.row w.heap.size 3 (Rep.size Int) J0 A0.length D1,.row w.heap.size 96 (Rep.size TUnit) vN (([]:List TUnit).length) [],.row w.heap.size 96 (Rep.size TUnit) c0 M0.length R0,.cells p0 [vI (((a0.fh % (3:UInt8)).toNat:Nat):Int),vI (((a0.fc % (4:UInt8)).toNat:Nat):Int),vI (((a0.fe % (3:UInt8)).toNat:Nat):Int),c0] 58,.cells j0 [vI 0,vI 0,vI 0,vN] 58,.cells g0 [.int .u8 (a0.fh.toNat:Int),.int .u8 (a0.fc.toNat:Int),.int .u8 (a0.fe.toNat:Int),.int .u8 (a0.fu.toNat:Int),v0_4] 51]∧Tr R1 [.row w.heap.size 96 (Rep.size TUnit) vN (([]:List TUnit).length) [],.row w.heap.size 96 (Rep.size TUnit) c0 M0.length R0,.cells p0 [vI (((a0.fh % (3:UInt8)).toNat:Nat):Int),vI (((a0.fc % (4:UInt8)).toNat:Nat):Int),vI (((a0.fe % (3:UInt8)).toNat:Nat):Int),c0] 58,.cells j0 [vI 0,vI 0,vI 0,vN] 58,.cells g0 [.int .u8 (a0.fh.toNat:Int),.int .u8 (a0.fc.toNat:Int),.int .u8 (a0.fe.toNat:Int),.int .u8 (a0.fu.toNat:Int),v0_4] 51] M1 [.row w.heap.size 3 (Rep.size Int) H0 C0.length B1,.row w.heap.size 3 (Rep.size Int) I0 B0.length C1,.row w.heap.size 3 (Rep.size Int) J0 A0.length D1,.row w.heap.size 96 (Rep.size TUnit) vN (([]:List TUnit).length) [],.row w.heap.size 96 (Rep.size TUnit) c0 M0.length R0,.cells p0 [vI (((a0.fh % (3:UInt8)).toNat:Nat):Int),vI (((a0.fc % (4:UInt8)).toNat:Nat):Int),vI (((a0.fe % (3:UInt8)).toNat:Nat):Int),c0] 58,.cells j0 [vI 0,vI 0,vI 0,vN] 58,.cells g0 [.int .u8 (a0.fh.toNat:Int),.int .u8 (a0.fc.toNat:Int),.int .u8 (a0.fe.toNat:Int),.int .u8 (a0.fu.toNat:Int),v0_4] 51]∧Cells M1 (bl [.row w.heap.size 3 (Rep.size Int) H0 C0.length B1,.row w.heap.size 3 (Rep.size Int) I0 B0.length C1,.row w.heap.size 3 (Rep.size Int) J0 A0.length D1,.row w.heap.size 96 (Rep.size TUnit) vN (([]:List TUnit).length) [],.row w.heap.size 96 (Rep.size TUnit) c0 M0.length R0,.cells p0 [vI (((a0.fh % (3:UInt8)).toNat:Nat):Int),vI (((a0.fc % (4:UInt8)).toNat:Nat):Int),vI (((a0.fe % (3:UInt8)).toNat:Nat):Int),c0] 58,.cells j0 [vI 0,vI 0,vI 0,vN] 58,.cells g0 [.int .u8 (a0.fh.toNat:Int),.int .u8 (a0.fc.toNat:Int),.int .u8 (a0.fe.toNat:Int),.int .u8 (a0.fu.toNat:Int),v0_4] 51] ++ L) B1 (C0:List Int)∧Cells M1 (bl [.row w.heap.size 3 (Rep.size Int) H0 C0.length B1,.row w.heap.size 3 (Rep.size Int) I0 B0.length C1,.row w.heap.size 3 (Rep.size Int) J0 A0.length D1,.row w.heap.size 96 (Rep.size TUnit) vN (([]:List TUnit).length) [],.row w.heap.size 96 (Rep.size TUnit) c0 M0.length R0,.cells p0 [vI (((a0.fh % (3:UInt8)).toNat:Nat):Int),vI (((a0.fc % (4:UInt8)).toNat:Nat):Int),vI (((a0.fe % (3:UInt8)).toNat:Nat):Int),c0] 58,.cells j0 [vI 0,vI 0,vI 0,vN] 58,.cells g0 [.int .u8 (a0.fh.toNat:Int),.int .u8 (a0.fc.toNat:Int),.int .u8 (a0.fe.toNat:Int),.int .u8 (a0.fu.toNat:Int),v0_4] 51] ++ L) C1 (B0:List Int)∧Cells M1 (bl [.row w.heap.size 3 (Rep.size Int) H0 C0.length B1,.row w.heap.size 3 (Rep.size Int) I0 B0.length C1,.row w.heap.size 3 (Rep.size Int) J0 A0.length D1,.row w.heap.size 96 (Rep.size TUnit) vN (([]:List TUnit).length) [],.row w.heap.size 96 (Rep.size TUnit) c0 M0.length R0,.cells p0 [vI (((a0.fh % (3:UInt8)).toNat:Nat):Int),vI (((a0.fc % (4:UInt8)).toNat:Nat):Int),vI (((a0.fe % (3:UInt8)).toNat:Nat):Int),c0] 58,.cells j0 [vI 0,vI 0,vI 0,vN] 58,.cells g0 [.int .u8 (a0.fh.toNat:Int),.int .u8 (a0.fc.toNat:Int),.int .u8 (a0.fe.toNat:Int),.int .u8 (a0.fu.toNat:Int),v0_4] 51] ++ L) D1 (A0:List Int)) 5 2047 ?_ ?_
 rintro ⟨H0,B1,I0,C1,J0,D1⟩ M1 ⟨I1,R4,q5,s5,t5⟩
 try dsimp only
 obtain ⟨B8,V8,D5⟩:=St.rowV (α:=Int) I1 (.tl (.tl .hd))
 obtain ⟨C8,W8,E5⟩:=St.rowV (α:=Int) I1 (.tl .hd)
 obtain ⟨D8,X8,F5⟩:=St.rowV (α:=Int) I1 .hd
 refine Ag 11 4095 b0 rfl A1 (fun _=>AV (vs:=[.string ⟨#[115,101,97]⟩,.bool true,J0,I0,H0]) (u:=.agg #[.string ⟨#[115,101,97]⟩,vI 0,J0,I0,H0,.bool true]) (e5 rfl rfl rfl rfl rfl) (fun w9=>by rw [D5,E5,F5]; try kernel_rfl)) rfl ?_
 have Y6:=Bu (α:=Int) I1 (.tl (.tl .hd)) t5 hL
 have U1:=St.delS I1 (.tl (.tl .hd))
 have E2:=St.delT I1 (.tl (.tl .hd))
 have U3:=Rep.at_ (α:=Int) (v:=J0) (xs:=A0) U1 L Y6
 have J5:=AD s5 E2
 have Z6:=Bu (α:=Int) U1 (.tl .hd) J5 hL
 have V1:=St.delS U1 (.tl .hd)
 have F2:=St.delT U1 (.tl .hd)
 have V3:=Rep.at_ (α:=Int) (v:=I0) (xs:=B0) V1 L Z6
 have K5:=AD q5 (Tt E2 F2)
 have b7:=Bu (α:=Int) V1 .hd K5 hL
 have d3:=St.delS V1 .hd
 have Y1:=St.delT V1 .hd
 have W3:=Rep.at_ (α:=Int) (v:=H0) (xs:=C0) d3 L b7
 have M5:=Az U3 (Tt F2 Y1)
 have P5:=Az V3 Y1
 obtain ⟨E8,Y8,E7,_⟩:=Rep.sl M5
 obtain ⟨F8,Z8,F7,_⟩:=Rep.sl P5
 obtain ⟨G8,b9,G7,_⟩:=Rep.sl W3
 refine RD.nu 12 8191 b0 rfl .plain rfl (AY (α:=TUnit) (xs:=([(⟨⟨#[115,101,97]⟩,(0:Int),A0,B0,C0,true⟩:TUnit)]:List TUnit)) (vs:=[.agg #[.string ⟨#[115,101,97]⟩,vI 0,J0,I0,H0,.bool true]]) (ds' :=[.string ⟨#[115,101,97]⟩,vI 0,J0,I0,H0,.bool true]) rfl d3 el56 rfl (e1 rfl) (by rw [E7,F7,G7]; try kernel_rfl) rfl) (fun G9 Q8 u2 G2=>?_)
 have F3:=Tt F2 (Tt Y1 G2)
 have Q5:=Az U3 F3
 have R5:=Az V3 (Tt Y1 G2)
 have U5:=Az W3 G2
 have u5:=AB (cs:=[.string ⟨#[115,101,97]⟩,vI 0,J0,I0,H0,.bool true]) (xs:=(([(⟨⟨#[115,101,97]⟩,(0:Int),A0,B0,C0,true⟩:TUnit)]:List TUnit):List TUnit)) u2 L (Aq (cs:=[.string ⟨#[115,101,97]⟩,vI 0,J0,I0,H0,.bool true]) (ds:=[]) (mk_TUnit ⟨#[115,101,97]⟩ (0:Int) A0 Q5 B0 R5 C0 U5 true) (AN _ _))
 obtain ⟨y8,K7,h⟩:=bi h
 have G3:=Tt R4 (Tt E2 F3)
 have V5:=AD C3 G3
 refine By (i:=13) (rk b0) (RO.doesL (m' :=16383) (sk b0) rfl rfl .plain rfl (DoesL.app (α:=TUnit) (ys:=([(⟨⟨#[115,101,97]⟩,(0:Int),A0,B0,C0,true⟩:TUnit)]:List TUnit)) K7 u2 (fun _ _=>(.tl (.tl .hd))) el56 rfl rfl V5 (Src.row (α:=TUnit) u2 .hd u5)) (fun X2 H9 ⟨j4,v2,U4,v5⟩=>?_))
 refine By (i:=14) (rk b0) (RO.val (m' :=32767) (sk b0) rfl .plain rfl (Bi 3 rfl) ?_)
 refine Bv 15 65535 b0 rfl rfl .plain (Bx (j:=3) (old:=[vI (((a0.fh % (3:UInt8)).toNat:Nat):Int),vI (((a0.fc % (4:UInt8)).toNat:Nat):Int),vI (((a0.fe % (3:UInt8)).toNat:Nat):Int),c0]) (news:=[X2]) (new' :=[vI (((a0.fh % (3:UInt8)).toNat:Nat):Int),vI (((a0.fc % (4:UInt8)).toNat:Nat):Int),vI (((a0.fe % (3:UInt8)).toNat:Nat):Int),X2]) v2 (.tl (.tl (.tl .hd))) rfl rfl rfl (St.c1 (α:=TUnit) v2 (.tl (.tl .hd))) rfl rfl (o1 (St.o1 (α:=TUnit) v2 (.tl (.tl .hd)))) rfl) (fun I9 u4 s3=>?_)
 refine AK (dk b0)<|Au<|Am<|Ae rfl<|Ab (Bh (i:=y1) (j:=1) rfl rfl (by omega))<|Af rfl<|Aa ?_
 obtain ⟨v4,t3⟩:=AL u4 (.one (.tl .hd) (.one (.tl .hd) (.one (.tl .hd) (.one (.tl .hd) (.one (.tl .hd) .done)))))
 have W5:=AD v5 (Tt s3 t3)
 have Q6:=Tt G3 (Tt U4 (Tt s3 t3))
 exact q4 (y1 + 1,y8,X2,j4) _ _ ⟨rfl,rfl,rfl,rfl,trivial⟩ ⟨v4,(Tt Q4 Q6),W5⟩ h
 intro H1
 refine RD.each [4,7,10] (rk b0) ⟨?_,?_,?_,trivial⟩
 refine RO.new (m' :=895) (sk b0) rfl .plain rfl (Does.mk (α:=Int) t1 Z0 el52 rfl) (fun g2 d1 D0 X0=>?_)
 have p1:=AB (cs:=(List.replicate (((a0.fh % (3:UInt8)).toNat:Nat):Int).toNat [vI 0]).flatten) (xs:=A0) D0 L (Cells.mk t1 rfl)
 refine RD.each [7,10] (rk b0) ⟨?_,?_,trivial⟩
 refine RO.new (m' :=1023) (sk b0) rfl .plain rfl (Does.mk (α:=Int) u1 D0 el52 rfl) (fun j2 g1 E0 U0=>?_)
 have q1:=AB (cs:=(List.replicate (((a0.fc % (4:UInt8)).toNat:Nat):Int).toNat [vI 0]).flatten) (xs:=B0) E0 L (Cells.mk u1 rfl)
 refine RD.nu 10 2047 b0 rfl .plain rfl (Does.mk (α:=Int) v1 E0 el52 rfl) (fun k2 j1 F0 V0=>?_)
 have s1:=AB (cs:=(List.replicate (((a0.fe % (3:UInt8)).toNat:Nat):Int).toNat [vI 0]).flatten) (xs:=C0) F0 L (Cells.mk v1 rfl)
 have X5:=AD q1 V0
 have Y5:=AD p1 (Tt U0 V0)
 have R6:=Tt X0 (Tt U0 V0)
 exact H1 ((.slice (some ⟨j1,0,none⟩) (((a0.fe % (3:UInt8)).toNat:Nat):Int).toNat (((a0.fe % (3:UInt8)).toNat:Nat):Int).toNat),(List.replicate (((a0.fe % (3:UInt8)).toNat:Nat):Int).toNat [vI 0]).flatten,(.slice (some ⟨g1,0,none⟩) (((a0.fc % (4:UInt8)).toNat:Nat):Int).toNat (((a0.fc % (4:UInt8)).toNat:Nat):Int).toNat),(List.replicate (((a0.fc % (4:UInt8)).toNat:Nat):Int).toNat [vI 0]).flatten,(.slice (some ⟨d1,0,none⟩) (((a0.fh % (3:UInt8)).toNat:Nat):Int).toNat (((a0.fh % (3:UInt8)).toNat:Nat):Int).toNat),(List.replicate (((a0.fh % (3:UInt8)).toNat:Nat):Int).toNat [vI 0]).flatten) _ _ ⟨rfl,rfl,rfl,rfl,rfl,rfl,rfl,rfl,trivial⟩ ⟨F0,R6,s1,X5,Y5⟩
 refine RO.new (m' :=1919) (sk b0) rfl .plain rfl (Does.mk (α:=Int) v1 D0 el52 rfl) (fun k2 j1 F0 V0=>?_)
 have s1:=AB (cs:=(List.replicate (((a0.fe % (3:UInt8)).toNat:Nat):Int).toNat [vI 0]).flatten) (xs:=C0) F0 L (Cells.mk v1 rfl)
 refine RD.nu 7 2047 b0 rfl .plain rfl (Does.mk (α:=Int) u1 F0 el52 rfl) (fun j2 g1 E0 U0=>?_)
 have q1:=AB (cs:=(List.replicate (((a0.fc % (4:UInt8)).toNat:Nat):Int).toNat [vI 0]).flatten) (xs:=B0) E0 L (Cells.mk u1 rfl)
 obtain ⟨x4,H2⟩:=AL E0 (.one (.tl .hd) (.one .hd (.one .hd (.one .hd (.one .hd (.one .hd (.one .hd (.one .hd .done))))))))
 have Z5:=AD s1 (Tt U0 H2)
 have b6:=AD q1 H2
 have H3:=Tt V0 (Tt U0 H2)
 have c6:=AD p1 H3
 exact H1 ((.slice (some ⟨j1,0,none⟩) (((a0.fe % (3:UInt8)).toNat:Nat):Int).toNat (((a0.fe % (3:UInt8)).toNat:Nat):Int).toNat),(List.replicate (((a0.fe % (3:UInt8)).toNat:Nat):Int).toNat [vI 0]).flatten,(.slice (some ⟨g1,0,none⟩) (((a0.fc % (4:UInt8)).toNat:Nat):Int).toNat (((a0.fc % (4:UInt8)).toNat:Nat):Int).toNat),(List.replicate (((a0.fc % (4:UInt8)).toNat:Nat):Int).toNat [vI 0]).flatten,(.slice (some ⟨d1,0,none⟩) (((a0.fh % (3:UInt8)).toNat:Nat):Int).toNat (((a0.fh % (3:UInt8)).toNat:Nat):Int).toNat),(List.replicate (((a0.fh % (3:UInt8)).toNat:Nat):Int).toNat [vI 0]).flatten) _ _ ⟨rfl,rfl,rfl,rfl,rfl,rfl,rfl,rfl,trivial⟩ ⟨x4,(Tt X0 H3),Z5,b6,c6⟩
 refine RO.new (m' :=1007) (sk b0) rfl .plain rfl (Does.mk (α:=Int) u1 Z0 el52 rfl) (fun j2 g1 E0 U0=>?_)
 have q1:=AB (cs:=(List.replicate (((a0.fc % (4:UInt8)).toNat:Nat):Int).toNat [vI 0]).flatten) (xs:=B0) E0 L (Cells.mk u1 rfl)
 refine RD.each [4,10] (rk b0) ⟨?_,?_,trivial⟩
 refine RO.new (m' :=1023) (sk b0) rfl .plain rfl (Does.mk (α:=Int) t1 E0 el52 rfl) (fun g2 d1 D0 X0=>?_)
 have p1:=AB (cs:=(List.replicate (((a0.fh % (3:UInt8)).toNat:Nat):Int).toNat [vI 0]).flatten) (xs:=A0) D0 L (Cells.mk t1 rfl)
 refine RD.nu 10 2047 b0 rfl .plain rfl (Does.mk (α:=Int) v1 D0 el52 rfl) (fun k2 j1 F0 V0=>?_)
 have s1:=AB (cs:=(List.replicate (((a0.fe % (3:UInt8)).toNat:Nat):Int).toNat [vI 0]).flatten) (xs:=C0) F0 L (Cells.mk v1 rfl)
 obtain ⟨y4,I2⟩:=AL F0 (.one .hd (.one (.tl .hd) (.one .hd (.one .hd (.one .hd (.one .hd (.one .hd (.one .hd .done))))))))
 have d6:=AD s1 I2
 have I3:=Tt X0 (Tt V0 I2)
 have g6:=AD q1 I3
 have j6:=AD p1 (Tt V0 I2)
 exact H1 ((.slice (some ⟨j1,0,none⟩) (((a0.fe % (3:UInt8)).toNat:Nat):Int).toNat (((a0.fe % (3:UInt8)).toNat:Nat):Int).toNat),(List.replicate (((a0.fe % (3:UInt8)).toNat:Nat):Int).toNat [vI 0]).flatten,(.slice (some ⟨g1,0,none⟩) (((a0.fc % (4:UInt8)).toNat:Nat):Int).toNat (((a0.fc % (4:UInt8)).toNat:Nat):Int).toNat),(List.replicate (((a0.fc % (4:UInt8)).toNat:Nat):Int).toNat [vI 0]).flatten,(.slice (some ⟨d1,0,none⟩) (((a0.fh % (3:UInt8)).toNat:Nat):Int).toNat (((a0.fh % (3:UInt8)).toNat:Nat):Int).toNat),(List.replicate (((a0.fh % (3:UInt8)).toNat:Nat):Int).toNat [vI 0]).flatten) _ _ ⟨rfl,rfl,rfl,rfl,rfl,rfl,rfl,rfl,trivial⟩ ⟨y4,(Tt U0 I3),d6,g6,j6⟩
 refine RO.new (m' :=2031) (sk b0) rfl .plain rfl (Does.mk (α:=Int) v1 E0 el52 rfl) (fun k2 j1 F0 V0=>?_)
 have s1:=AB (cs:=(List.replicate (((a0.fe % (3:UInt8)).toNat:Nat):Int).toNat [vI 0]).flatten) (xs:=C0) F0 L (Cells.mk v1 rfl)
 refine RD.nu 4 2047 b0 rfl .plain rfl (Does.mk (α:=Int) t1 F0 el52 rfl) (fun g2 d1 D0 X0=>?_)
 have p1:=AB (cs:=(List.replicate (((a0.fh % (3:UInt8)).toNat:Nat):Int).toNat [vI 0]).flatten) (xs:=A0) D0 L (Cells.mk t1 rfl)
 obtain ⟨z4,J2⟩:=AL D0 (.one (.tl .hd) (.one (.tl .hd) (.one .hd (.one .hd (.one .hd (.one .hd (.one .hd (.one .hd .done))))))))
 have k6:=AD s1 (Tt X0 J2)
 have J3:=Tt V0 (Tt X0 J2)
 have p6:=AD q1 J3
 have q6:=AD p1 J2
 exact H1 ((.slice (some ⟨j1,0,none⟩) (((a0.fe % (3:UInt8)).toNat:Nat):Int).toNat (((a0.fe % (3:UInt8)).toNat:Nat):Int).toNat),(List.replicate (((a0.fe % (3:UInt8)).toNat:Nat):Int).toNat [vI 0]).flatten,(.slice (some ⟨g1,0,none⟩) (((a0.fc % (4:UInt8)).toNat:Nat):Int).toNat (((a0.fc % (4:UInt8)).toNat:Nat):Int).toNat),(List.replicate (((a0.fc % (4:UInt8)).toNat:Nat):Int).toNat [vI 0]).flatten,(.slice (some ⟨d1,0,none⟩) (((a0.fh % (3:UInt8)).toNat:Nat):Int).toNat (((a0.fh % (3:UInt8)).toNat:Nat):Int).toNat),(List.replicate (((a0.fh % (3:UInt8)).toNat:Nat):Int).toNat [vI 0]).flatten) _ _ ⟨rfl,rfl,rfl,rfl,rfl,rfl,rfl,rfl,trivial⟩ ⟨z4,(Tt U0 J3),k6,p6,q6⟩
 refine RO.new (m' :=1903) (sk b0) rfl .plain rfl (Does.mk (α:=Int) v1 Z0 el52 rfl) (fun k2 j1 F0 V0=>?_)
 have s1:=AB (cs:=(List.replicate (((a0.fe % (3:UInt8)).toNat:Nat):Int).toNat [vI 0]).flatten) (xs:=C0) F0 L (Cells.mk v1 rfl)
 refine RD.each [4,7] (rk b0) ⟨?_,?_,trivial⟩
 refine RO.new (m' :=1919) (sk b0) rfl .plain rfl (Does.mk (α:=Int) t1 F0 el52 rfl) (fun g2 d1 D0 X0=>?_)
 have p1:=AB (cs:=(List.replicate (((a0.fh % (3:UInt8)).toNat:Nat):Int).toNat [vI 0]).flatten) (xs:=A0) D0 L (Cells.mk t1 rfl)
 refine RD.nu 7 2047 b0 rfl .plain rfl (Does.mk (α:=Int) u1 D0 el52 rfl) (fun j2 g1 E0 U0=>?_)
 have q1:=AB (cs:=(List.replicate (((a0.fc % (4:UInt8)).toNat:Nat):Int).toNat [vI 0]).flatten) (xs:=B0) E0 L (Cells.mk u1 rfl)
 obtain ⟨A4,K2⟩:=AL E0 (.one (.tl (.tl .hd)) (.one .hd (.one .hd (.one .hd (.one .hd (.one .hd (.one .hd (.one .hd .done))))))))
 have K3:=Tt X0 (Tt U0 K2)
 have s6:=AD s1 K3
 have t6:=AD q1 K2
 have u6:=AD p1 (Tt U0 K2)
 exact H1 ((.slice (some ⟨j1,0,none⟩) (((a0.fe % (3:UInt8)).toNat:Nat):Int).toNat (((a0.fe % (3:UInt8)).toNat:Nat):Int).toNat),(List.replicate (((a0.fe % (3:UInt8)).toNat:Nat):Int).toNat [vI 0]).flatten,(.slice (some ⟨g1,0,none⟩) (((a0.fc % (4:UInt8)).toNat:Nat):Int).toNat (((a0.fc % (4:UInt8)).toNat:Nat):Int).toNat),(List.replicate (((a0.fc % (4:UInt8)).toNat:Nat):Int).toNat [vI 0]).flatten,(.slice (some ⟨d1,0,none⟩) (((a0.fh % (3:UInt8)).toNat:Nat):Int).toNat (((a0.fh % (3:UInt8)).toNat:Nat):Int).toNat),(List.replicate (((a0.fh % (3:UInt8)).toNat:Nat):Int).toNat [vI 0]).flatten) _ _ ⟨rfl,rfl,rfl,rfl,rfl,rfl,rfl,rfl,trivial⟩ ⟨A4,(Tt V0 K3),s6,t6,u6⟩
 refine RO.new (m' :=2031) (sk b0) rfl .plain rfl (Does.mk (α:=Int) u1 F0 el52 rfl) (fun j2 g1 E0 U0=>?_)
 have q1:=AB (cs:=(List.replicate (((a0.fc % (4:UInt8)).toNat:Nat):Int).toNat [vI 0]).flatten) (xs:=B0) E0 L (Cells.mk u1 rfl)
 refine RD.nu 4 2047 b0 rfl .plain rfl (Does.mk (α:=Int) t1 E0 el52 rfl) (fun g2 d1 D0 X0=>?_)
 have p1:=AB (cs:=(List.replicate (((a0.fh % (3:UInt8)).toNat:Nat):Int).toNat [vI 0]).flatten) (xs:=A0) D0 L (Cells.mk t1 rfl)
 obtain ⟨B4,M2⟩:=AL D0 (.one (.tl (.tl .hd)) (.one (.tl .hd) (.one .hd (.one .hd (.one .hd (.one .hd (.one .hd (.one .hd .done))))))))
 have M3:=Tt U0 (Tt X0 M2)
 have v6:=AD s1 M3
 have x6:=AD q1 (Tt X0 M2)
 have y6:=AD p1 M2
 exact H1 ((.slice (some ⟨j1,0,none⟩) (((a0.fe % (3:UInt8)).toNat:Nat):Int).toNat (((a0.fe % (3:UInt8)).toNat:Nat):Int).toNat),(List.replicate (((a0.fe % (3:UInt8)).toNat:Nat):Int).toNat [vI 0]).flatten,(.slice (some ⟨g1,0,none⟩) (((a0.fc % (4:UInt8)).toNat:Nat):Int).toNat (((a0.fc % (4:UInt8)).toNat:Nat):Int).toNat),(List.replicate (((a0.fc % (4:UInt8)).toNat:Nat):Int).toNat [vI 0]).flatten,(.slice (some ⟨d1,0,none⟩) (((a0.fh % (3:UInt8)).toNat:Nat):Int).toNat (((a0.fh % (3:UInt8)).toNat:Nat):Int).toNat),(List.replicate (((a0.fh % (3:UInt8)).toNat:Nat):Int).toNat [vI 0]).flatten) _ _ ⟨rfl,rfl,rfl,rfl,rfl,rfl,rfl,rfl,trivial⟩ ⟨B4,(Tt V0 M3),v6,x6,y6⟩
 refine AW rfl ?_
 have h:=G5 _ h
 try dsimp only at h
 refine Ac<|Ab (AJ rfl (Z0.memA (.tl (.tl .hd))))<|AX [vI (((a0.fh % (3:UInt8)).toNat:Nat):Int),vI (((a0.fc % (4:UInt8)).toNat:Nat):Int),vI (((a0.fe % (3:UInt8)).toNat:Nat):Int),c0] Z0 (.tl (.tl (.tl .hd))) (o4 rfl rfl rfl (St.o1 (α:=TUnit) Z0 (.tl .hd))) (fun J9 x2 V4=>?_)
 refine Aa<|Ak rfl ?_
 have z6:=AD C3 V4
 have c7:=Bu (α:=TUnit) x2 (.tl .hd) z6 hL
 have W1:=St.delS x2 (.tl .hd)
 have j9:=St.delT x2 (.tl .hd)
 have d7:=Rep.at_ (α:=TUnit) (v:=c0) (xs:=M0) W1 L c7
 refine Ap hb0 Tryz.func18 rfl (.cons (.many (cs:=[vI (((a0.fh % (3:UInt8)).toNat:Nat):Int),vI (((a0.fc % (4:UInt8)).toNat:Nat):Int),vI (((a0.fe % (3:UInt8)).toNat:Nat):Int),c0]) (by kernel_rfl) rfl (W1.memA (.tl (.tl .hd)))) .nil) rfl ?_
 cases h
 exact ⟨W1.ag,fun w9 hw9=>⟨c0,rfl,W1.kd d7 hw9⟩⟩
def tb4_15:List (Nat × Nat × Nat):=[(0,147573952589676412928,262144),(1,295147905179352825856,147573952589676412928),(2,590295810358705651712,295147905179352825856),(0,1180591620717411303424,2048),(0,2361183241434822606848,131072),(24,4722366482869645213696,3541774862152233910272),(32,9444732965739290427392,4722366482869645213696),(68,18889465931478580854784,10035028776097996079104),(128,73786976294838206464,18889465931478580854784),(256,37778931862957161709568,73786976294838206464),(256,75557863725914323419136,73786976294838206464),(0,524288,0),(3071,0,37778931862957162233856),(8191,1048576,75557863725914323419136)]
def tb4_24:List (Nat × Nat × Nat):=[(0,316912650057057350374175801344,16384),(1,633825300114114700748351602688,316912650057057350374175801344),(2,1267650600228229401496703205376,633825300114114700748351604736),(2,2535301200456458802993406410752,633825300114114700748351733760),(14,5070602400912917605986812821504,4436777100798802905238461218816),(18,10141204801825835211973625643008,5704427701027032306735164424192),(2,20282409603651670423947251286016,633825300114114700748351602688),(98,40564819207303340847894502572032,31057439705591620336669228531712),(130,81129638414606681695789005144064,41198644507417455548642854174720),(511,16384,81129638414606681695789005144064)]
def tb4_29:List (Nat × Nat × Nat):=[(0,2658455991569831745807614120560689152,2097152),(0,5316911983139663491615228241121378304,8192),(2,10633823966279326983230456482242756608,5316911983139663491615228241121378304),(5,21267647932558653966460912964485513216,13292279957849158729038070602803445760),(8,1329227995784915872903807060280344576,21267647932558653966460912964485513216),(16,42535295865117307932921825928971026432,1329227995784915872903807060280344576),(16,85070591730234615865843651857942052864,1329227995784915872903807060280344576),(0,4194304,0),(191,0,42535295865117307932921825928975220736),(511,8388608,85070591730234615865843651857942052864)]
def tb4_31:List (Nat × Nat × Nat):=[(0,43556142965880123323311949751266331066368,4096),(1,87112285931760246646623899502532662132736,43556142965880123323311949751266331066368),(2,174224571863520493293247799005065324265472,87112285931760246646623899502532662132736),(4,348449143727040986586495598010130648530944,174224571863520493293247799005065332654080),(12,696898287454081973172991196020261297061888,522673715590561479879743397015195972796416),(20,1393796574908163946345982392040522594123776,871122859317602466466238995025326621327360),(36,2787593149816327892691964784081045188247552,1393796574908163946345982392040522594123776),(64,5575186299632655785383929568162090376495104,2787593149816327892691964784081045221801984),(192,11150372599265311570767859136324180752990208,8362779449448983678075894352243135564742656),(320,22300745198530623141535718272648361505980416,13937965749081639463459823920405225941237760),(576,44601490397061246283071436545296723011960832,22300745198530623141535718272648361505980416),(1024,89202980794122492566142873090593446023921664,44601490397061246283071436545296723016155136),(1024,178405961588244985132285746181186892047843328,44601490397061246283071436545296723011993600),(7168,356811923176489970264571492362373784095686656,312210432779428723981500055817077061083725824),(9216,713623846352979940529142984724747568191373312,401413413573551216547642928907670507107647488),(17408,1427247692705959881058285969449495136382746624,713623846352979940529142984724747568191373312),(32768,2854495385411919762116571938898990272765493248,1427247692705959881058285969449495136399523840),(32768,5708990770823839524233143877797980545530986496,1427247692705959881058285969449495136384843776),(229376,11417981541647679048466287755595961091061972992,9990733848941719167408001786146465954679226368),(294912,22835963083295358096932575511191922182123945984,12845229234353638929524573725045456227444719616),(557056,45671926166590716193865151022383844364247891968,22835963083295358096932575511191922182123945984),(1048576,91343852333181432387730302044767688728495783936,45671926166590716193865151022383844364249989120),(1048576,182687704666362864775460604089535377456991567872,45671926166590716193865151022383844364247891968),(7340032,365375409332725729550921208179070754913983135744,319703483166135013357056057156686910549735243776),(1048576,730750818665451459101842416358141509827966271488,45671926166590716193865151022383844364247908352),(26214400,1461501637330902918203684832716283019655932542976,1141798154164767904846628775559596109106197299200),(34603008,2923003274661805836407369665432566039311865085952,1507173563497493634397549983738666864020180434944),(134217727,64,2923003274661805836407369665432566039311865085952)]
theorem body10:bodyB Tryz.prog 10 = true:=by kernel_rfl
theorem body11:bodyB Tryz.prog 11 = true:=by kernel_rfl
theorem body17:bodyB Tryz.prog 17 = true:=by kernel_rfl
theorem body18:bodyB Tryz.prog 18 = true:=by kernel_rfl
def wardmotelaw27_InterestScores_l1 (n:Nat) (K0:List TInterest) (X0:(List TShare) × Int) (P0:Int × Bool × Nat × (List TInterest) × UInt64 × UInt64 × UInt64 × UInt64 × UInt64 × UInt64 × UInt64 × UInt64 × UInt64 × UInt64 × UInt64 × UInt64 × UInt64 × UInt64 × UInt64 × UInt64 → Option (Bool ⊕ (Int × (List TInterest) × UInt64 × UInt64 × UInt64 × UInt64 × UInt64 × UInt64 × UInt64 × UInt64 × UInt64 × UInt64 × UInt64 × UInt64 × UInt64 × UInt64 × UInt64 × UInt64 × Bool))):Int × Bool × Nat × (List TInterest) × UInt64 × UInt64 × UInt64 × UInt64 × UInt64 × UInt64 × UInt64 × UInt64 × UInt64 × UInt64 × UInt64 × UInt64 × UInt64 × UInt64 × UInt64 × UInt64 → Option (Bool ⊕ (Int × (List TInterest) × UInt64 × UInt64 × UInt64 × UInt64 × UInt64 × UInt64 × UInt64 × UInt64 × UInt64 × UInt64 × UInt64 × UInt64 × UInt64 × UInt64 × UInt64 × UInt64 × Bool))
  | (M0,j0,c0,k0,p0,q0,s0,t0,u0,v0,x0,y0,z0,A0,B0,C0,D0,E0,F0,G0)=>(if c0 < K0.length then (K0[c0]?).bind fun d0=>(wardmotelaw27_of_p n d0.fx (1:Int)).bind fun V0=>(X0.1[c0]?).bind fun H0=>(share_Mul_p n V0 H0).bind fun J0=>(if J0.2 = 0 then (share_Add_p n (⟨(p0,q0,s0,t0,u0,v0,x0,y0),(z0,A0,B0,C0,D0,E0,F0,G0)⟩:TShare) J0.1).bind fun b0=>(if b0.2 = 0 then (chk (M0 + d0.fx)).bind fun R0=>jn (fun (Q0,U0)=>P0 (R0,Q0,c0 + 1,U0,b0.1.fN.1,b0.1.fN.2.1,b0.1.fN.2.2.1,b0.1.fN.2.2.2.1,b0.1.fN.2.2.2.2.1,b0.1.fN.2.2.2.2.2.1,b0.1.fN.2.2.2.2.2.2.1,b0.1.fN.2.2.2.2.2.2.2,b0.1.fD.1,b0.1.fD.2.1,b0.1.fD.2.2.1,b0.1.fD.2.2.2.1,b0.1.fD.2.2.2.2.1,b0.1.fD.2.2.2.2.2.1,b0.1.fD.2.2.2.2.2.2.1,b0.1.fD.2.2.2.2.2.2.2)) (fun g0=>(if 0 < d0.fx then (app k0 ([d0]:List TInterest)).bind fun I0=>(if j0 = true then (wardmotelaw27_of_p n (1:Int) (1:Int)).bind fun W0=>g0 ((decide (H0 = W0)),I0) else g0 (false,I0)) else g0 (j0,k0))) else some (.inl false)) else some (.inl false)) else some (.inr (M0,k0,p0,q0,s0,t0,u0,v0,x0,y0,z0,A0,B0,C0,D0,E0,F0,G0,j0)))
def wardmotelaw27_InterestScores_p (n:Nat) (a0:TDraft48) (a1:TDraft50) (a2:TDraft):Option Bool:=
  (wardmotelaw27_works_p n).bind fun P0=>(if P0 = true then (wardmoteref21_Draft_Loose_p n a0).bind fun c0=>(wardmoteref22_Draft_Roll_p n a1 ((c0.1.length:Nat):Int)).bind fun j0=>(wardmoteref27_Draft_List_p n a2 ((c0.1.length:Nat):Int)).bind fun g0=>(interest_Largest_p n g0 j0 c0.1 c0.2).bind fun k0=>(if k0.2 = 0 then (if k0.1.length = g0.length then (wardmotelaw27_of_p n (0:Int) (1:Int)).bind fun b0=>thn (loopF (wardmotelaw27_InterestScores_l1 n g0 k0) n (0,true,0,([]:List TInterest),b0.fN.1,b0.fN.2.1,b0.fN.2.2.1,b0.fN.2.2.2.1,b0.fN.2.2.2.2.1,b0.fN.2.2.2.2.2.1,b0.fN.2.2.2.2.2.2.1,b0.fN.2.2.2.2.2.2.2,b0.fD.1,b0.fD.2.1,b0.fD.2.2.1,b0.fD.2.2.2.1,b0.fD.2.2.2.2.1,b0.fD.2.2.2.2.2.1,b0.fD.2.2.2.2.2.2.1,b0.fD.2.2.2.2.2.2.2)) (fun (s0,M0,u0,v0,x0,y0,z0,A0,B0,C0,D0,E0,F0,G0,H0,I0,J0,K0,t0)=>(interest_Score_p n g0 j0 c0.1 c0.2).bind fun d0=>(if s0 = 0 then some (decide (d0.2 = 7)) else (wardmotelaw27_of_p n s0 (1:Int)).bind fun Q0=>(share_Mul_p n d0.1 Q0).bind fun p0=>(interest_Score_p n M0 j0 c0.1 c0.2).bind fun q0=>(if d0.2 = 0 then (if p0.2 = 0 then (if q0.2 = 0 then (if p0.1 = (⟨(u0,v0,x0,y0,z0,A0,B0,C0),(D0,E0,F0,G0,H0,I0,J0,K0)⟩:TShare) then (if q0.1 = d0.1 then (wardmotelaw27_of_p n (1:Int) (1:Int)).bind fun R0=>some ((decide (d0.1 = R0)) == t0) else some false) else some false) else some false) else some false) else some false))) else some false) else some false) else some false)
theorem wardmotelaw27_InterestScores_c (n:Nat) (L:List Nat) (w:World) (hL:∀ b ∈ L,b < w.heap.size) (a0:TDraft48) {v0_1:Value} (h0_1:Rep.R w L [v0_1] a0.fF) {v0_2:Value} (h0_2:Rep.R w L [v0_2] a0.fMore) {v0_3:Value} (h0_3:Rep.R w L [v0_3] a0.fLabels) (a1:TDraft50) {v1_4:Value} (h1_4:Rep.R w L [v1_4] a1.fNums) (a2:TDraft) {v2_0:Value} (h2_0:Rep.R w L [v2_0] a2.fL) (hG0:Glob 0 tab0 w)  {r:Bool} (h:wardmotelaw27_InterestScores_p n a0 a1 a2 = some r) :
    Calls Tryz.prog 4 #[.agg #[.int .u8 (a0.fN.toNat:Int),v0_1,v0_2,v0_3,.int .u8 (a0.fK.toNat:Int)],.agg #[.int .u8 (a1.fh.toNat:Int),.int .u8 (a1.fc.toNat:Int),.int .u8 (a1.fe.toNat:Int),.int .u8 (a1.fu.toNat:Int),v1_4],.agg #[v2_0]] w (Gives w fun _ u=>u = .bool r):=by
 unfold wardmotelaw27_InterestScores_p at h
 have hS0:=Ay w
 refine AC Tryz.func4 rfl rfl rfl (fun _ cs0 hb0=>?_)
 refine Ac<|Al .plain rfl (Ax hS0 rfl rfl) (fun c7 u6 K3 I6=>?_)
 refine Al .plain rfl (Ax K3 rfl rfl) (fun d7 v6 M3 J6=>?_)
 refine Al .plain rfl (Ax M3 rfl rfl) (fun g7 x6 Z0 K6=>?_)
 refine Af rfl<|Aa<|Aj<|Ac ?_
 obtain ⟨j6,I5,h⟩:=bi h
 refine Bc (.bool j6) body10 rfl evs_nil (fun w9 hw9=>wardmotelaw27_works_c n _ w9 (Z0.hL0 hL hw9) (hG0.keep (Z0.ag.trans hw9)) I5) rfl<|Ab (Bz rfl)<|Aa<|MX.ifnb rfl h (fun u3 h=>?_) (fun u3 h=>?_)
 refine Ao<|Ac<|Ab (AJ rfl (Z0.memA (.tl (.tl .hd)))) ?_
 obtain ⟨t0,J5,h⟩:=bi h
 refine Bp (fst:=[]) (cap:=[]) .plain body17 rfl (e1 rfl) (fun w9 hw9=>wardmoteref21_Draft_Loose_c n _ w9 (Z0.hL hL hw9) a0 (Z0.km h0_1 hw9) (Z0.km h0_2 hw9) (Z0.km h0_3 hw9) J5) rfl (fun j7 Y6 t4 ⟨d3,hu_,y1⟩=>?_)
 subst hu_
 obtain ⟨J1,M6⟩:=Z0.agr t4
 refine Ae rfl<|Ab (Ah rfl rfl)<|Ab (Ah rfl rfl)<|Af rfl<|Af rfl<|Aa<|Ac<|Ab (AJ rfl (J1.memA (.tl .hd)))<|Ae rfl ?_
 have R6:t0.1.length ≤ 281474976710656:=AQ y1
 refine Ab (Bb (xs:=t0.1) Tryz.underlying53 rfl y1) ?_
 obtain ⟨d0,K5,h⟩:=bi h
 refine Bp (fst:=[]) (cap:=[]) .plain body18 rfl (e2 rfl rfl) (fun w9 hw9=>wardmoteref22_Draft_Roll_c n _ w9 (J1.hL hL hw9) a1 (J1.km h1_4 hw9) ((t0.1.length:Nat):Int) K5) rfl (fun k7 Z6 u4 ⟨c1,hu_,d2⟩=>?_)
 subst hu_
 obtain ⟨Q3,R1⟩:=J1.agr u4
 refine Al .plain rfl (AA [vI 0,vI 0,vI 0,vN] Q3) (fun s7 B0 V3 H1=>?_)
 have P4:=Az d2 H1
 refine AX [vI d0.fh,vI d0.fc,vI d0.fe,c1] V3 .hd (o4 rfl rfl rfl (Bg P4)) (fun v7 M1 b2=>?_)
 refine Aa<|Ac<|Ab (AJ rfl (M1.memA (.tl .hd)))<|Ae rfl ?_
 have x5:=Tt R1 (Tt H1 b2)
 have V4:=Az y1 x5
 refine Ab (Bb (xs:=t0.1) Tryz.underlying53 rfl V4) ?_
 obtain ⟨g1,U5,h⟩:=bi h
 refine Bp (fst:=[]) (cap:=[]) .plain body11 rfl (e2 rfl rfl) (fun w9 hw9=>wardmoteref27_Draft_List_c n _ w9 (M1.hL hL hw9) a2 (M1.km h2_0 hw9) ((t0.1.length:Nat):Int) U5) rfl (fun A7 j2 v4 ⟨X6,hu_,I1⟩=>?_)
 subst hu_
 obtain ⟨P1,A2⟩:=M1.agr v4
 refine Af rfl<|Aa<|Ac<|Ae rfl<|Ab (AJ rfl (P1.memA .hd))<|Ae rfl<|Ae rfl ?_
 obtain ⟨u2,b6,h⟩:=bi h
 have Z2:=Tt H1 (Tt b2 A2)
 have k5:=Az d2 Z2
 have p5:=Az y1 (Tt R1 Z2)
 refine Bp (fst:=[]) (cap:=[]) .plain body19 rfl (e4 rfl rfl rfl rfl) (fun w9 hw9=>interest_Largest_c n _ w9 (P1.hL hL hw9) g1 (Aw I1 hw9) d0 (Aw k5 hw9) t0.1 (Aw p5 hw9) t0.2 (hG0.keep (P1.ag.trans hw9)) b6) rfl (fun G7 b7 x4 ⟨j3,hu_,g2⟩=>?_)
 subst hu_
 obtain ⟨Q1,B2⟩:=P1.agr x4
 refine Ae rfl<|Ab (Ah rfl rfl)<|Ab (Ah rfl rfl)<|Af rfl<|Af rfl<|Aa<|Aj<|Ac<|Ae rfl<|Ab (FV.neq (i:=u2.2) (j:=0) rfl rfl)<|Ae rfl<|RG.ifn (s:=51) rfl h (fun H3 h=>?_) (fun H3 h=>?_)
 refine AU (Ai rfl) ?_
 have U6:u2.1.length ≤ 281474976710656:=AQ g2
 refine AU (Bb (xs:=u2.1) Tryz.underlying60 rfl g2)<|AU (Ai rfl) ?_
 have R2:=Az I1 B2
 have V6:g1.length ≤ 281474976710656:=AQ R2
 refine AU (Bb (xs:=g1) Tryz.underlying30 rfl R2)<|AU (FV.neqN (i:=u2.1.length) (j:=g1.length) rfl rfl)<|RG.pf rfl rfl<|Aa<|MX.ifn rfl h (fun I3 h=>?_) (fun I3 h=>?_)
 refine Ao<|Ac<|Af rfl<|Af rfl<|Aa<|Ac ?_
 obtain ⟨k0,c6,h⟩:=bi h
 refine Bc (.agg ((cs_TShare k0)).toArray) body20 rfl (e2 rfl rfl) (fun w9 hw9=>wardmotelaw27_of_c n _ w9 (Q1.hL0 hL hw9) (0:Int) (1:Int) c6) rfl<|Al .plain rfl (AA zL Q1) (fun H7 C0 g4 C2=>?_)
 refine AX (cs_TShare k0) g4 .hd (onesB rfl) (fun g6 I2 D2=>?_)
 refine Aa<|Ac<|Af rfl<|Aa<|Aj<|Ac<|Ae rfl ?_
 have G2:=Tt B2 (Tt C2 D2)
 have q5:=Az I1 G2
 refine Ab (Bb (xs:=g1) Tryz.underlying30 rfl q5)<|Ae rfl<|Aa<|Ar ?_
 have J2:=I2.nilRow 65 (Rep.size TInterest)
 have c2:=St.nilRowT I2 65 (Rep.size TInterest)
 have A4:=AB (cs:=[]) (xs:=([]:List TInterest)) J2 L (AN _ _)
 obtain ⟨P3,F1⟩:=AL J2 (.one .hd (.one .hd (.one .hd .done)))
 have H4:=AD A4 F1
 obtain ⟨W6,s5,F2⟩:=thn_in h
 refine Be (α:=Int × Bool × Nat × (List TInterest) × UInt64 × UInt64 × UInt64 × UInt64 × UInt64 × UInt64 × UInt64 × UInt64 × UInt64 × UInt64 × UInt64 × UInt64 × UInt64 × UInt64 × UInt64 × UInt64 × Value × (List Value)) (fun ⟨q1,v1,v0,z0,D0,E0,F0,G0,H0,I0,J0,K0,M0,P0,Q0,R0,U0,V0,W0,X0,b1,Y0⟩=>[(7,d3),(8,vI t0.2),(9,vP B0),(10,j2),(11,j3),(13,vI q1),(14,.bool v1),(15,vP C0),(16,b1),(59,j2),(60,vI ((g1.length:Nat):Int)),(61,vI ((v0:Nat):Int))]) (fun ⟨q1,v1,v0,z0,D0,E0,F0,G0,H0,I0,J0,K0,M0,P0,Q0,R0,U0,V0,W0,X0,b1,Y0⟩ k2=>St w k2 [.row w.heap.size 65 (Rep.size TInterest) b1 z0.length Y0,.cells C0 [vU D0,vU E0,vU F0,vU G0,vU H0,vU I0,vU J0,vU K0,vU M0,vU P0,vU Q0,vU R0,vU U0,vU V0,vU W0,vU X0] 42,.cells B0 [vI d0.fh,vI d0.fc,vI d0.fe,c1] 58]∧Tr g6 [.row w.heap.size 65 (Rep.size TInterest) vN (([]:List TInterest).length) [],.cells C0 (cs_TShare k0) 42,.cells B0 [vI d0.fh,vI d0.fc,vI d0.fe,c1] 58] k2 [.row w.heap.size 65 (Rep.size TInterest) b1 z0.length Y0,.cells C0 [vU D0,vU E0,vU F0,vU G0,vU H0,vU I0,vU J0,vU K0,vU M0,vU P0,vU Q0,vU R0,vU U0,vU V0,vU W0,vU X0] 42,.cells B0 [vI d0.fh,vI d0.fc,vI d0.fe,c1] 58]∧Cells k2 (bl [.row w.heap.size 65 (Rep.size TInterest) b1 z0.length Y0,.cells C0 [vU D0,vU E0,vU F0,vU G0,vU H0,vU I0,vU J0,vU K0,vU M0,vU P0,vU Q0,vU R0,vU U0,vU V0,vU W0,vU X0] 42,.cells B0 [vI d0.fh,vI d0.fc,vI d0.fe,c1] 58] ++ L) Y0 z0) (fun ⟨q1,v1,v0,z0,D0,E0,F0,G0,H0,I0,J0,K0,M0,P0,Q0,R0,U0,V0,W0,X0,b1,Y0⟩=>(q1,v1,v0,z0,D0,E0,F0,G0,H0,I0,J0,K0,M0,P0,Q0,R0,U0,V0,W0,X0)) (0,true,0,([]:List TInterest),k0.fN.1,k0.fN.2.1,k0.fN.2.2.1,k0.fN.2.2.2.1,k0.fN.2.2.2.2.1,k0.fN.2.2.2.2.2.1,k0.fN.2.2.2.2.2.2.1,k0.fN.2.2.2.2.2.2.2,k0.fD.1,k0.fD.2.1,k0.fD.2.2.1,k0.fD.2.2.2.1,k0.fD.2.2.2.2.1,k0.fD.2.2.2.2.2.1,k0.fD.2.2.2.2.2.2.1,k0.fD.2.2.2.2.2.2.2,vN,[]) s5 ⟨rfl,rfl,rfl,rfl,rfl,rfl,rfl,rfl,rfl,rfl,rfl,rfl,trivial⟩ ⟨P3,AT _ _,H4⟩ ?_
 rintro s6 ⟨q1,v1,v0,z0,D0,E0,F0,G0,H0,I0,J0,K0,M0,P0,Q0,R0,U0,V0,W0,X0,b1,Y0⟩ k2 J3 ⟨k1,G1,E2⟩ h
 unfold wardmotelaw27_InterestScores_l1 at h
 try dsimp only at h
 refine Ac<|Ab (Bf (i:=v0) (j:=g1.length) rfl rfl)<|Aa<|Aj<|AO rfl h (fun v3 h=>?_) (fun v3 h=>?_)
 refine Ao<|Aj<|Ar<|Ac<|Ae rfl ?_
 obtain ⟨g0,G5,h⟩:=bi h
 have t5:=Tt G2 (Tt c2 (Tt F1 G1))
 have J4:=Az I1 t5
 obtain ⟨k6,C6,B4,E4,F6,C5,I4⟩:=Bk J4 G5
 obtain rfl:=op_TInterest C5
 refine Ab (Bo 3 v0 rfl B4 rfl rfl E4)<|Ab (AJ rfl I4)<|Al .plain rfl (AA [.string ⟨#[]⟩,vI 0,vW 0] k1) (fun p7 s3 R3 U1=>?_)
 refine Af rfl<|AX [.string g0.fp,vI g0.fx,vU g0.fo] R3 .hd (onesB rfl) (fun q7 K1 V1=>?_)
 refine Aa<|Aj<|dt 12 tb4_15 (fun p0 y0=>?_)
 refine Ag 0 1 p0 rfl y0 (fun _=>Bi 1 rfl) rfl<|AF 1 3 14212 p0 rfl y0 (AG rfl ((K1.memA .hd) 1 _ rfl)) rfl ?_
 obtain ⟨p3,M5,h⟩:=bi h
 refine RD.cq 2 7 14208 (.agg ((cs_TShare p3)).toArray) p0 rfl y0 body20 rfl (e2 rfl rfl) (fun w9 hw9=>wardmotelaw27_of_c n _ w9 (K1.hL0 hL hw9) g0.fx (1:Int) M5) rfl<|Ag 3 15 p0 rfl y0 (fun _=>Ai rfl) rfl<|Ag 4 31 p0 rfl y0 (fun _=>Ai rfl) rfl ?_
 obtain ⟨q2,b3,h⟩:=bi h
 have U2:=Tt C2 (Tt D2 (Tt c2 (Tt F1 (Tt G1 (Tt U1 V1)))))
 have M4:=Az g2 U2
 obtain ⟨p6,D6,C4,F4,G6,D5,K4⟩:=Bk M4 b3
 obtain rfl:=op_TShare D5
 refine Ag 5 63 p0 rfl y0 (fun _=>Bo 16 v0 rfl C4 rfl rfl F4) rfl<|AF 6 127 14208 p0 rfl y0 (AJ rfl K4) rfl ?_
 obtain ⟨A1,P5,h⟩:=bi h
 refine RD.cq 7 255 14080 (.tuple #[.agg ((cs_TShare A1.1)).toArray,vI A1.2]) p0 rfl y0 body21 rfl (e2 rfl rfl) (fun w9 hw9=>share_Mul_c n _ w9 (K1.hL0 hL hw9) p3 q2 P5) rfl<|Ag 8 511 p0 rfl y0 (fun _=>Ai rfl) rfl<|Ag 9 1023 p0 rfl y0 (fun _=>Ah rfl rfl) rfl<|Ag 10 2047 p0 rfl y0 (fun _=>Ah rfl rfl) rfl<|RD.nu 11 4095 p0 rfl .plain rfl (AA zL K1) (fun t7 t3 U3 W1=>?_)
 refine Bv 12 8191 p0 rfl rfl .plain (Av (news:=(cs_TShare A1.1)) U3 .hd rfl rfl rfl rfl rfl rfl (onesB rfl)) (fun u7 D1 X1=>?_)
 refine By (i:=13) (rk p0) (RO.val (m' :=16383) (sk p0) rfl .plain rfl (AS rfl) ?_)
 refine AK (dk p0)<|Aj<|Ac<|Ae rfl<|Ab (FV.neq (i:=A1.2) (j:=0) rfl rfl)<|Aa<|MX.ifn rfl h (fun x3 h=>?_) (fun x3 h=>?_)
 refine Ao<|Ac<|Ab (AJ rfl (D1.memA (.tl (.tl (.tl .hd)))))<|Ab (AJ rfl (D1.memA .hd)) ?_
 obtain ⟨j0,Q5,h⟩:=bi h
 refine Bc (.tuple #[.agg ((cs_TShare j0.1)).toArray,vI j0.2]) body22 rfl (e2 rfl rfl) (fun w9 hw9=>share_Add_c n _ w9 (D1.hL0 hL hw9) (⟨(D0,E0,F0,G0,H0,I0,J0,K0),(M0,P0,Q0,R0,U0,V0,W0,X0)⟩:TShare) A1.1 Q5) rfl<|Ae rfl<|Ab (Ah rfl rfl)<|Ab (Ah rfl rfl)<|AX (cs_TShare j0.1) D1 (.tl (.tl (.tl .hd))) (onesB rfl) (fun d6 x1 Y1=>?_)
 refine Af rfl<|Aa<|Aj<|Ac<|Ae rfl<|Ab (FV.neq (i:=j0.2) (j:=0) rfl rfl)<|Aa<|MX.ifn rfl h (fun y3 h=>?_) (fun y3 h=>?_)
 refine Ao<|Ac<|Ae rfl<|Bd 1 rfl<|AZ rfl ((x1.memA (.tl .hd)) 1 _ rfl) ?_
 obtain ⟨c3,F5,h⟩:=bi h
 refine Ab (FV.addc (i:=q1) (j:=g0.fx) rfl rfl F5)<|Af rfl<|Aa<|Ac<|Bd 1 rfl<|AZ rfl ((x1.memA (.tl .hd)) 1 _ rfl)<|Ab (FV.gtr (i:=g0.fx) (j:=0) rfl rfl)<|Aa<|MX.join (α:=Bool × (List TInterest) × Value × (List Value)) (fun ⟨z1,d1,p1,j1⟩=>[(7,d3),(8,vI t0.2),(9,vP B0),(10,j2),(11,j3),(13,vI c3),(14,.bool z1),(15,vP C0),(16,p1),(59,j2),(60,vI ((g1.length:Nat):Int)),(61,vI ((v0:Nat):Int))]) (fun ⟨z1,d1,p1,j1⟩ p2=>St w p2 [.row w.heap.size 65 (Rep.size TInterest) p1 d1.length j1,.cells C0 (cs_TShare j0.1) 42,.cells B0 [vI d0.fh,vI d0.fc,vI d0.fe,c1] 58]∧Tr d6 [.cells t3 (cs_TShare A1.1) 42,.cells s3 [.string g0.fp,vI g0.fx,vU g0.fo] 65,.row w.heap.size 65 (Rep.size TInterest) b1 z0.length Y0,.cells C0 (cs_TShare j0.1) 42,.cells B0 [vI d0.fh,vI d0.fc,vI d0.fe,c1] 58] p2 [.row w.heap.size 65 (Rep.size TInterest) p1 d1.length j1,.cells C0 (cs_TShare j0.1) 42,.cells B0 [vI d0.fh,vI d0.fc,vI d0.fe,c1] 58]∧Cells p2 (bl [.row w.heap.size 65 (Rep.size TInterest) p1 d1.length j1,.cells C0 (cs_TShare j0.1) 42,.cells B0 [vI d0.fh,vI d0.fc,vI d0.fe,c1] 58] ++ L) j1 d1) (fun ⟨z1,d1,p1,j1⟩=>(z1,d1)) h ?_ ?_
 rintro ⟨z1,d1,p1,j1⟩ p2 ⟨W3,j4,y4⟩ h
 try dsimp only at h
 refine Au<|Am<|Ab (Bh (i:=v0) (j:=1) rfl rfl (by omega))<|Ae rfl<|Aa ?_
 have u5:=Tt U1 (Tt V1 (Tt W1 (Tt X1 (Tt Y1 j4))))
 exact J3 (c3,z1,v0 + 1,d1,j0.1.fN.1,j0.1.fN.2.1,j0.1.fN.2.2.1,j0.1.fN.2.2.2.1,j0.1.fN.2.2.2.2.1,j0.1.fN.2.2.2.2.2.1,j0.1.fN.2.2.2.2.2.2.1,j0.1.fN.2.2.2.2.2.2.2,j0.1.fD.1,j0.1.fD.2.1,j0.1.fD.2.2.1,j0.1.fD.2.2.2.1,j0.1.fD.2.2.2.2.1,j0.1.fD.2.2.2.2.2.1,j0.1.fD.2.2.2.2.2.2.1,j0.1.fD.2.2.2.2.2.2.2,p1,j1) _ _ ⟨rfl,rfl,rfl,rfl,rfl,rfl,rfl,rfl,rfl,rfl,rfl,rfl,trivial⟩ ⟨W3,(Tt G1 u5),y4⟩ h
 intro t6 v2 h
 try dsimp only at h
 refine AO rfl h (fun z3 h=>?_) (fun z3 h=>?_)
 refine Ac<|Ae rfl<|Ab (AJ rfl (x1.memA (.tl .hd)))<|Al .plain rfl (AY (α:=TInterest) (xs:=([g0]:List TInterest)) (vs:=[.agg #[.string g0.fp,vI g0.fx,vU g0.fo]]) (ds' :=[.string g0.fp,vI g0.fx,vU g0.fo]) rfl x1 el30 rfl (e1 rfl) (by kernel_rfl) rfl) (fun x7 y6 x2 Z1=>?_)
 have z4:=AB (cs:=[.string g0.fp,vI g0.fx,vU g0.fo]) (xs:=(([g0]:List TInterest):List TInterest)) x2 L (Aq (cs:=[.string g0.fp,vI g0.fx,vU g0.fo]) (ds:=[]) (mk_TInterest g0.fp g0.fx g0.fo) (AN _ _))
 obtain ⟨k3,H5,h⟩:=bi h
 have v5:=Tt U1 (Tt V1 (Tt W1 (Tt X1 (Tt Y1 Z1))))
 have Q4:=AD E2 v5
 refine RG.doesL .plain rfl (DoesL.app (α:=TInterest) (ys:=([g0]:List TInterest)) H5 x2 (fun _ _=>(.tl (.tl (.tl .hd)))) el30 rfl rfl Q4 (Src.row (α:=TInterest) x2 .hd z4)) (fun g3 y7 ⟨H2,y2,z2,Q2⟩=>?_)
 refine Af rfl<|Aa<|dt 10 tb4_24 (fun q0 s0=>?_)
 refine Ag 0 1 q0 rfl s0 (fun _=>Ai rfl) rfl<|Ag 1 3 q0 rfl s0 (fun _=>Ai rfl) rfl<|RD.ifb (s:=99) rfl h (fun A3 h=>?_) (fun A3 h=>?_)
 refine RD.vP 2 7 q0 rfl s0 (.yes rfl rfl) (fun _=>Ai rfl) rfl<|RD.vP 3 15 q0 rfl s0 (.yes rfl rfl) (fun _=>Ai rfl) rfl ?_
 have y5:=Tt U2 (Tt W1 (Tt X1 (Tt Y1 (Tt Z1 z2))))
 have U4:=Az g2 y5
 obtain ⟨q6,E6,D4,G4,H6,E5,R4⟩:=Bk U4 b3
 obtain rfl:=op_TShare E5
 refine RD.vP 4 31 q0 rfl s0 (.yes rfl rfl) (fun _=>Bo 16 v0 rfl D4 rfl rfl G4) rfl<|RD.val (i:=5) (m' :=63) (W:=896) (tk q0) rfl s0 (.yes rfl rfl) (AJ rfl R4) rfl ?_
 obtain ⟨s2,R5,h⟩:=bi h
 refine RD.callq (i:=6) (m' :=127) (W:=896) (tk q0) rfl s0 (v:=.agg ((cs_TShare s2)).toArray) (fst:=[]) (cap:=[]) (.yes rfl rfl) body20 rfl (e2 rfl rfl) (fun w9 hw9=>wardmotelaw27_of_c n _ w9 (y2.hL0 hL hw9) (1:Int) (1:Int) R5) rfl<|RD.vP 7 255 q0 rfl s0 (.yes rfl rfl) (fun _=>FV.eqlV (v:=.agg ((cs_TShare q2)).toArray) (u:=.agg ((cs_TShare s2)).toArray) rfl rfl (eqlD_42 q2 s2)) rfl<|Ag 8 511 q0 rfl s0 (fun _=>FV.pick_t rfl rfl) rfl<|Ag 9 1023 q0 rfl s0 (fun _=>AS rfl) rfl<|AK (dk q0) ?_
 obtain ⟨X3,K2⟩:=AL y2 (.one (.tl (.tl (.tl .hd))) (.one (.tl (.tl (.tl .hd))) (.one (.tl (.tl (.tl .hd))) .done)))
 have W4:=AD Q2 K2
 have z5:=Tt Z1 (Tt z2 K2)
 exact v2 ((decide (q2 = s2)),k3,g3,H2) _ _ ⟨rfl,rfl,rfl,rfl,rfl,rfl,rfl,rfl,rfl,rfl,rfl,rfl,trivial⟩ ⟨X3,z5,W4⟩ h
 refine Ba 255 2 [(2,100),(3,101),(4,102),(5,103),(6,104),(7,105)] (F:=[(99,false)]) (U:=[]) q0 s0 (.cons rfl .nil) .nil ?_
 dsimp only [offS,List.map]
 refine Ag 8 511 q0 rfl s0 (fun _=>AI rfl rfl) rfl<|Ag 9 1023 q0 rfl s0 (fun _=>AS rfl) rfl<|AK (dk q0) ?_
 obtain ⟨Y3,M2⟩:=AL y2 (.one (.tl (.tl (.tl .hd))) (.one (.tl (.tl (.tl .hd))) (.one (.tl (.tl (.tl .hd))) .done)))
 have X4:=AD Q2 M2
 have A5:=Tt Z1 (Tt z2 M2)
 exact v2 (false,k3,g3,H2) _ _ ⟨rfl,rfl,rfl,rfl,rfl,rfl,rfl,rfl,rfl,rfl,rfl,rfl,trivial⟩ ⟨Y3,A5,X4⟩ h
 refine Ao ?_
 obtain ⟨Z3,P2⟩:=AL x1 (.one (.tl (.tl .hd)) (.one (.tl (.tl .hd)) (.one (.tl (.tl .hd)) .done)))
 have B5:=Tt U1 (Tt V1 (Tt W1 (Tt X1 (Tt Y1 P2))))
 have Y4:=AD E2 B5
 exact v2 (v1,z0,b1,Y0) _ _ ⟨rfl,rfl,rfl,rfl,rfl,rfl,rfl,rfl,rfl,rfl,rfl,rfl,trivial⟩ ⟨Z3,P2,Y4⟩ h
 refine Ac<|Af rfl<|Aa ?_
 have h:=thn_inl h F2
 refine Ak rfl<|AP hb0 Tryz.func4 rfl rfl ?_
 cases h
 exact x1.gv
 refine Ac<|Af rfl<|Aa ?_
 have h:=thn_inl h F2
 refine Ak rfl<|AP hb0 Tryz.func4 rfl rfl ?_
 cases h
 exact D1.gv
 refine AW rfl ?_
 have h:=thn_inr h F2
 try dsimp only at h
 refine Ac<|Ae rfl<|Ab (AJ rfl (k1.memA (.tl (.tl .hd))))<|Ae rfl<|Ae rfl ?_
 obtain ⟨A0,V5,h⟩:=bi h
 have V2:=Tt G2 (Tt c2 (Tt F1 G1))
 have Z4:=Az I1 V2
 have W2:=Tt H1 (Tt b2 (Tt A2 V2))
 have b5:=Az d2 W2
 have c5:=Az y1 (Tt R1 W2)
 refine Bc (.tuple #[.agg ((cs_TShare A0.1)).toArray,vI A0.2]) body23 rfl (e4 rfl rfl rfl rfl) (fun w9 hw9=>interest_Score_c n _ w9 (k1.hL0 hL hw9) g1 (k1.kd Z4 hw9) d0 (k1.kd b5 hw9) t0.1 (k1.kd c5 hw9) t0.2 (hG0.keep (k1.ag.trans hw9)) V5) rfl<|Ae rfl<|Ab (Ah rfl rfl)<|Ab (Ah rfl rfl)<|Al .plain rfl (AA zL k1) (fun z7 z6 b4 k4=>?_)
 refine AX (cs_TShare A0.1) b4 .hd (onesB rfl) (fun B7 E1 p4=>?_)
 refine Af rfl<|Aa<|Aj<|Ac<|Ae rfl<|Ab (FV.eql (i:=q1) (j:=0) rfl rfl)<|Aa<|AO rfl h (fun B3 h=>?_) (fun B3 h=>?_)
 refine Ac<|Ae rfl<|Ab (FV.eql (i:=A0.2) (j:=7) rfl rfl)<|Af rfl<|Aa<|Ak rfl<|AP hb0 Tryz.func4 rfl rfl ?_
 cases h
 exact E1.gv
 refine Ao<|Aj<|dt 8 tb4_29 (fun x0 u1=>?_)
 refine AF 0 1 888 x0 rfl u1 (AJ rfl (E1.memA .hd)) rfl<|Ag 1 3 x0 rfl u1 (fun _=>Ai rfl) rfl ?_
 obtain ⟨q3,W5,h⟩:=bi h
 refine RD.cq 2 7 888 (.agg ((cs_TShare q3)).toArray) x0 rfl u1 body20 rfl (e2 rfl rfl) (fun w9 hw9=>wardmotelaw27_of_c n _ w9 (E1.hL0 hL hw9) q1 (1:Int) W5) rfl ?_
 obtain ⟨B1,X5,h⟩:=bi h
 refine RD.cq 3 15 880 (.tuple #[.agg ((cs_TShare B1.1)).toArray,vI B1.2]) x0 rfl u1 body21 rfl (e2 rfl rfl) (fun w9 hw9=>share_Mul_c n _ w9 (E1.hL0 hL hw9) A0.1 q3 X5) rfl<|Ag 4 31 x0 rfl u1 (fun _=>Ai rfl) rfl<|Ag 5 63 x0 rfl u1 (fun _=>Ah rfl rfl) rfl<|Ag 6 127 x0 rfl u1 (fun _=>Ah rfl rfl) rfl<|RD.nu 7 255 x0 rfl .plain rfl (AA zL E1) (fun C7 A6 c4 q4=>?_)
 refine Bv 8 511 x0 rfl rfl .plain (Av (news:=(cs_TShare B1.1)) c4 .hd rfl rfl rfl rfl rfl rfl (onesB rfl)) (fun D7 s1 s4=>?_)
 refine By (i:=9) (rk x0) (RO.val (m' :=1023) (sk x0) rfl .plain rfl (AS rfl) ?_)
 refine AK (dk x0)<|Ac<|Ae rfl<|Ab (AJ rfl (s1.memA (.tl (.tl (.tl (.tl .hd))))))<|Ae rfl<|Ae rfl ?_
 obtain ⟨C1,Y5,h⟩:=bi h
 have X2:=Tt k4 (Tt p4 (Tt q4 s4))
 have d5:=AD E2 X2
 have Y2:=Tt H1 (Tt b2 (Tt A2 (Tt B2 (Tt C2 (Tt D2 (Tt c2 (Tt F1 (Tt G1 X2))))))))
 have g5:=Az d2 Y2
 have j5:=Az y1 (Tt R1 Y2)
 refine Bc (.tuple #[.agg ((cs_TShare C1.1)).toArray,vI C1.2]) body23 rfl (e4 rfl rfl rfl rfl) (fun w9 hw9=>interest_Score_c n _ w9 (s1.hL0 hL hw9) z0 (Aw (St.lend (α:=TInterest) (L:=L) s1 (.tl (.tl .hd)) d5 hL) hw9) d0 (s1.kd g5 hw9) t0.1 (s1.kd j5 hw9) t0.2 (hG0.keep (s1.ag.trans hw9)) Y5) rfl<|Ae rfl<|Ab (Ah rfl rfl)<|Ab (Ah rfl rfl)<|Al .plain rfl (AA zL s1) (fun E7 B6 d4 P6=>?_)
 refine AX (cs_TShare C1.1) d4 .hd (onesB rfl) (fun F7 u0 Q6=>?_)
 refine Af rfl<|Aa<|Aj<|dt 28 tb4_31 (fun b0 c0=>?_)
 refine Ag 0 1 b0 rfl c0 (fun _=>Ai rfl) rfl<|Ag 1 3 b0 rfl c0 (fun _=>FV.eql (i:=A0.2) (j:=0) rfl rfl) rfl<|Ag 2 7 b0 rfl c0 (fun _=>Ai rfl) rfl<|RD.ifd (s:=137) rfl h (fun C3 h=>?_) (fun C3 h=>?_)
 refine RD.vP 3 15 b0 rfl c0 (.yes rfl rfl) (fun _=>Ai rfl) rfl<|RD.vP 4 31 b0 rfl c0 (.yes rfl rfl) (fun _=>FV.eql (i:=B1.2) (j:=0) rfl rfl) rfl<|Ag 5 63 b0 rfl c0 (fun _=>FV.pick_t rfl rfl) rfl<|Ag 6 127 b0 rfl c0 (fun _=>Ai rfl) rfl<|RD.ifd (s:=141) rfl h (fun D3 h=>?_) (fun D3 h=>?_)
 refine RD.vP 7 255 b0 rfl c0 (.yes rfl rfl) (fun _=>Ai rfl) rfl<|RD.vP 8 511 b0 rfl c0 (.yes rfl rfl) (fun _=>FV.eql (i:=C1.2) (j:=0) rfl rfl) rfl<|Ag 9 1023 b0 rfl c0 (fun _=>FV.pick_t rfl rfl) rfl<|Ag 10 2047 b0 rfl c0 (fun _=>Ai rfl) rfl<|RD.ifd (s:=145) rfl h (fun E3 h=>?_) (fun E3 h=>?_)
 refine RD.val (i:=11) (m' :=4095) (W:=268427264) (tk b0) rfl c0 (.yes rfl rfl) (AJ rfl (u0.memA (.tl .hd))) rfl<|RD.val (i:=12) (m' :=8191) (W:=268427264) (tk b0) rfl c0 (.yes rfl rfl) (AJ rfl (u0.memA (.tl (.tl (.tl (.tl .hd)))))) rfl<|RD.vP 13 16383 b0 rfl c0 (.yes rfl rfl) (fun _=>FV.eqlV (v:=.agg ((cs_TShare B1.1)).toArray) (u:=.agg #[vU D0,vU E0,vU F0,vU G0,vU H0,vU I0,vU J0,vU K0,vU M0,vU P0,vU Q0,vU R0,vU U0,vU V0,vU W0,vU X0]) rfl rfl (eqlD_42 B1.1 (⟨(D0,E0,F0,G0,H0,I0,J0,K0),(M0,P0,Q0,R0,U0,V0,W0,X0)⟩:TShare))) rfl<|Ag 14 32767 b0 rfl c0 (fun _=>FV.pick_t rfl rfl) rfl<|Ag 15 65535 b0 rfl c0 (fun _=>Ai rfl) rfl<|RD.ifd (s:=150) rfl h (fun F3 h=>?_) (fun F3 h=>?_)
 refine RD.val (i:=16) (m' :=131071) (W:=268173312) (tk b0) rfl c0 (.yes rfl rfl) (AJ rfl (u0.memA .hd)) rfl<|RD.val (i:=17) (m' :=262143) (W:=268173312) (tk b0) rfl c0 (.yes rfl rfl) (AJ rfl (u0.memA (.tl (.tl .hd)))) rfl<|RD.vP 18 524287 b0 rfl c0 (.yes rfl rfl) (fun _=>FV.eqlV (v:=.agg ((cs_TShare C1.1)).toArray) (u:=.agg ((cs_TShare A0.1)).toArray) rfl rfl (eqlD_42 C1.1 A0.1)) rfl<|Ag 19 1048575 b0 rfl c0 (fun _=>FV.pick_t rfl rfl) rfl<|Ag 20 2097151 b0 rfl c0 (fun _=>Ai rfl) rfl<|RD.ifd (s:=155) rfl h (fun G3 h=>?_) (fun G3 h=>?_)
 refine RD.val (i:=21) (m' :=4194303) (W:=243269632) (tk b0) rfl c0 (.yes rfl rfl) (AJ rfl (u0.memA (.tl (.tl .hd)))) rfl ?_
 obtain ⟨t2,Z5,h⟩:=bi h
 refine RD.callq (i:=22) (m' :=8388607) (W:=243269632) (tk b0) rfl c0 (v:=.agg ((cs_TShare t2)).toArray) (fst:=[]) (cap:=[]) (.yes rfl rfl) body20 rfl (e2 rfl rfl) (fun w9 hw9=>wardmotelaw27_of_c n _ w9 (u0.hL0 hL hw9) (1:Int) (1:Int) Z5) rfl<|RD.vP 23 16777215 b0 rfl c0 (.yes rfl rfl) (fun _=>FV.eqlV (v:=.agg ((cs_TShare A0.1)).toArray) (u:=.agg ((cs_TShare t2)).toArray) rfl rfl (eqlD_42 A0.1 t2)) rfl<|RD.vP 24 33554431 b0 rfl c0 (.yes rfl rfl) (fun _=>Ai rfl) rfl<|RD.vP 25 67108863 b0 rfl c0 (.yes rfl rfl) (fun _=>FV.eqlB (a:=(decide (A0.1 = t2))) (b:=v1) Tryz.underlying4 rfl rfl) rfl<|Ag 26 134217727 b0 rfl c0 (fun _=>FV.pick_t rfl rfl) rfl<|Ag 27 268435455 b0 rfl c0 (fun _=>AS rfl) rfl<|AK (dk b0)<|Ak rfl<|AP hb0 Tryz.func4 rfl rfl ?_
 cases h
 exact u0.gv
 refine Ba 67108863 2 [(21,156),(22,157),(23,158),(24,159),(25,160)] (F:=[(155,false)]) (U:=[]) b0 c0 (.cons rfl .nil) .nil ?_
 dsimp only [offS,List.map]
 refine Ag 26 134217727 b0 rfl c0 (fun _=>AI rfl rfl) rfl<|Ag 27 268435455 b0 rfl c0 (fun _=>AS rfl) rfl<|AK (dk b0)<|Ak rfl<|AP hb0 Tryz.func4 rfl rfl ?_
 cases h
 exact u0.gv
 refine Ba 524287 9 [(16,151),(17,152),(18,153)] (F:=[(150,false)]) (U:=[]) b0 c0 (.cons rfl .nil) .nil ?_
 dsimp only [offS,List.map]
 refine Ag 19 1048575 b0 rfl c0 (fun _=>AI rfl rfl) rfl<|Ag 20 2097151 b0 rfl c0 (fun _=>Ai rfl) rfl<|Ba 67108863 2 [(21,156),(22,157),(23,158),(24,159),(25,160)] (F:=[(155,false)]) (U:=[]) b0 c0 (.cons rfl .nil) .nil ?_
 dsimp only [offS,List.map]
 refine Ag 26 134217727 b0 rfl c0 (fun _=>AI rfl rfl) rfl<|Ag 27 268435455 b0 rfl c0 (fun _=>AS rfl) rfl<|AK (dk b0)<|Ak rfl<|AP hb0 Tryz.func4 rfl rfl ?_
 cases h
 exact u0.gv
 refine Ba 16383 14 [(11,146),(12,147),(13,148)] (F:=[(145,false)]) (U:=[]) b0 c0 (.cons rfl .nil) .nil ?_
 dsimp only [offS,List.map]
 refine Ag 14 32767 b0 rfl c0 (fun _=>AI rfl rfl) rfl<|Ag 15 65535 b0 rfl c0 (fun _=>Ai rfl) rfl<|Ba 524287 9 [(16,151),(17,152),(18,153)] (F:=[(150,false)]) (U:=[]) b0 c0 (.cons rfl .nil) .nil ?_
 dsimp only [offS,List.map]
 refine Ag 19 1048575 b0 rfl c0 (fun _=>AI rfl rfl) rfl<|Ag 20 2097151 b0 rfl c0 (fun _=>Ai rfl) rfl<|Ba 67108863 2 [(21,156),(22,157),(23,158),(24,159),(25,160)] (F:=[(155,false)]) (U:=[]) b0 c0 (.cons rfl .nil) .nil ?_
 dsimp only [offS,List.map]
 refine Ag 26 134217727 b0 rfl c0 (fun _=>AI rfl rfl) rfl<|Ag 27 268435455 b0 rfl c0 (fun _=>AS rfl) rfl<|AK (dk b0)<|Ak rfl<|AP hb0 Tryz.func4 rfl rfl ?_
 cases h
 exact u0.gv
 refine Ba 511 19 [(7,142),(8,143)] (F:=[(141,false)]) (U:=[]) b0 c0 (.cons rfl .nil) .nil ?_
 dsimp only [offS,List.map]
 refine Ag 9 1023 b0 rfl c0 (fun _=>AI rfl rfl) rfl<|Ag 10 2047 b0 rfl c0 (fun _=>Ai rfl) rfl<|Ba 16383 14 [(11,146),(12,147),(13,148)] (F:=[(145,false)]) (U:=[]) b0 c0 (.cons rfl .nil) .nil ?_
 dsimp only [offS,List.map]
 refine Ag 14 32767 b0 rfl c0 (fun _=>AI rfl rfl) rfl<|Ag 15 65535 b0 rfl c0 (fun _=>Ai rfl) rfl<|Ba 524287 9 [(16,151),(17,152),(18,153)] (F:=[(150,false)]) (U:=[]) b0 c0 (.cons rfl .nil) .nil ?_
 dsimp only [offS,List.map]
 refine Ag 19 1048575 b0 rfl c0 (fun _=>AI rfl rfl) rfl<|Ag 20 2097151 b0 rfl c0 (fun _=>Ai rfl) rfl<|Ba 67108863 2 [(21,156),(22,157),(23,158),(24,159),(25,160)] (F:=[(155,false)]) (U:=[]) b0 c0 (.cons rfl .nil) .nil ?_
 dsimp only [offS,List.map]
 refine Ag 26 134217727 b0 rfl c0 (fun _=>AI rfl rfl) rfl<|Ag 27 268435455 b0 rfl c0 (fun _=>AS rfl) rfl<|AK (dk b0)<|Ak rfl<|AP hb0 Tryz.func4 rfl rfl ?_
 cases h
 exact u0.gv
 refine Ba 31 23 [(3,138),(4,139)] (F:=[(137,false)]) (U:=[]) b0 c0 (.cons rfl .nil) .nil ?_
 dsimp only [offS,List.map]
 refine Ag 5 63 b0 rfl c0 (fun _=>AI rfl rfl) rfl<|Ag 6 127 b0 rfl c0 (fun _=>Ai rfl) rfl<|Ba 511 19 [(7,142),(8,143)] (F:=[(141,false)]) (U:=[]) b0 c0 (.cons rfl .nil) .nil ?_
 dsimp only [offS,List.map]
 refine Ag 9 1023 b0 rfl c0 (fun _=>AI rfl rfl) rfl<|Ag 10 2047 b0 rfl c0 (fun _=>Ai rfl) rfl<|Ba 16383 14 [(11,146),(12,147),(13,148)] (F:=[(145,false)]) (U:=[]) b0 c0 (.cons rfl .nil) .nil ?_
 dsimp only [offS,List.map]
 refine Ag 14 32767 b0 rfl c0 (fun _=>AI rfl rfl) rfl<|Ag 15 65535 b0 rfl c0 (fun _=>Ai rfl) rfl<|Ba 524287 9 [(16,151),(17,152),(18,153)] (F:=[(150,false)]) (U:=[]) b0 c0 (.cons rfl .nil) .nil ?_
 dsimp only [offS,List.map]
 refine Ag 19 1048575 b0 rfl c0 (fun _=>AI rfl rfl) rfl<|Ag 20 2097151 b0 rfl c0 (fun _=>Ai rfl) rfl<|Ba 67108863 2 [(21,156),(22,157),(23,158),(24,159),(25,160)] (F:=[(155,false)]) (U:=[]) b0 c0 (.cons rfl .nil) .nil ?_
 dsimp only [offS,List.map]
 refine Ag 26 134217727 b0 rfl c0 (fun _=>AI rfl rfl) rfl<|Ag 27 268435455 b0 rfl c0 (fun _=>AS rfl) rfl<|AK (dk b0)<|Ak rfl<|AP hb0 Tryz.func4 rfl rfl ?_
 cases h
 exact u0.gv
 refine Ac<|Af rfl<|Aa<|Ak rfl<|AP hb0 Tryz.func4 rfl rfl ?_
 cases h
 exact Q1.gv
 refine AE<|AE<|AE<|AE<|AE<|RG.pt rfl rfl<|Aa<|Bj rfl<|Ac<|Af rfl<|Aa<|Ak rfl<|AP hb0 Tryz.func4 rfl rfl ?_
 cases h
 exact Q1.gv
 refine Ac<|Af rfl<|Aa<|Ak rfl<|AP hb0 Tryz.func4 rfl rfl ?_
 cases h
 exact Z0.gv
end Go.Proofs.YtfccehcnajelgaaGreatDoor
