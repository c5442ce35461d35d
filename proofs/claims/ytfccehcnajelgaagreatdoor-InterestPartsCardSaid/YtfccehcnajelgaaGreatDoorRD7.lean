/- Functions of the program, and what they give: part 7. -/
import Derived.Test.YtfccehcnajelgaaGreatDoorRD6
namespace Go.Proofs.YtfccehcnajelgaaGreatDoor
open Go Go.RowKit
set_option maxRecDepth 4000
set_option maxHeartbeats 4000000

def tb18_5:List (Nat × Nat × Nat):=[(0,268435456,64),(1,536870912,268435456),(2,1073741824,536870912),(4,2147483648,1073741824),(0,4294967296,64),(16,8589934592,4294967296),(32,17179869184,8589934592),(64,34359738368,17179869184),(128,68719476736,34359738368),(264,137438953472,70866960384),(512,274877906944,137438953472),(1024,549755813888,274877906944),(0,1099511627776,4),(0,2199023255552,64),(8192,4398046511104,2199023255552),(20480,8796093022208,5497558138880),(34816,17592186044416,9345848836096),(0,128,0),(262143,0,17592186044544)]
def tb18_11:List (Nat × Nat × Nat):=[(0,590295810358705651712,128),(1,1180591620717411303424,590295810358705651712),(0,2361183241434822606848,4),(0,4722366482869645213696,64),(8,9444732965739290427392,4722366482869645213696),(16,18889465931478580854784,9444732965739290427392),(0,37778931862957161709568,256),(96,75557863725914323419136,56668397794435742564352),(132,151115727451828646838272,77919046967349146025984),(256,302231454903657293676544,151115727451828646838272),(512,604462909807314587353088,302231454903657293676544),(1282,1208925819614629174706176,605643501428031998656512),(4095,2417851639229258349412352,128),(8191,0,3626777458843887524118528)]
def tb18_16:List (Nat × Nat × Nat):=[(0,79228162514264337593543950336,32),(1,158456325028528675187087900672,79228162514264337593543950336),(0,316912650057057350374175801344,32),(4,633825300114114700748351602688,316912650057057350374175801344),(8,1267650600228229401496703205376,633825300114114700748351602688),(0,2535301200456458802993406410752,32),(32,5070602400912917605986812821504,2535301200456458802993406410752),(64,10141204801825835211973625643008,5070602400912917605986812821504),(0,20282409603651670423947251286016,32),(256,40564819207303340847894502572032,20282409603651670423947251286016),(512,81129638414606681695789005144064,40564819207303340847894502572032),(1168,162259276829213363391578010288128,92538493816660746309259333992448),(2048,324518553658426726783156020576256,162259276829213363391578010288128),(4098,649037107316853453566312041152512,324677009983455255458343108476928),(16383,1298074214633706907132624082305024,32),(32767,0,1947111321950560360698936123457536)]
theorem body53:bodyB Tryz.prog 53 = true:=by kernel_rfl
def wardmoteref22_Draft_Roll_l1 (n:Nat) (a0:TDraft50) (t0:Int) (d0:Nat × (List Int) → Option (List Int)):Nat × (List Int) → Option (List Int)
  | (b0,c0)=>(if b0 < ((a0.fe % (3:UInt8)).toNat) then (chk (9 * t0)).bind fun g0=>(chk (g0 + 7)).bind fun j0=>(chk (j0 + ((b0:Nat):Int))).bind fun k0=>(wardmoteref22_Draft_num_p n a0 k0).bind fun s0=>(remI s0 3).bind fun p0=>(app c0 ([p0]:List Int)).bind fun q0=>d0 (b0 + 1,q0) else some c0)
def wardmoteref22_Draft_Roll_l2 (_n:Nat) (a0:TDraft50) (d0:Nat × (List TUnit) → Option (List TUnit)):Nat × (List TUnit) → Option (List TUnit)
  | (b0,c0)=>(if b0 < ((a0.fu % (2:UInt8)).toNat) then (mk (((a0.fh % (3:UInt8)).toNat:Nat):Int) (0:Int)).bind fun g0=>(mk (((a0.fc % (4:UInt8)).toNat:Nat):Int) (0:Int)).bind fun j0=>(mk (((a0.fe % (3:UInt8)).toNat:Nat):Int) (0:Int)).bind fun k0=>(app c0 ([(⟨⟨#[115,101,97]⟩,(0:Int),g0,j0,k0,true⟩:TUnit)]:List TUnit)).bind fun p0=>d0 (b0 + 1,p0) else some c0)
def wardmoteref22_Draft_Roll_l3 (n:Nat) (a1:Int) (a0:TDraft50) (g0:Int × (List TUnit) → Option (List TUnit)):Int × (List TUnit) → Option (List TUnit)
  | (b0,c0)=>(if b0 < a1 then (remI b0 26).bind fun j0=>(chk (97 + j0)).bind fun k0=>(quoI b0 26).bind fun p0=>(remI p0 26).bind fun q0=>(chk (97 + q0)).bind fun s0=>(chk (9 * b0)).bind fun t0=>(wardmoteref22_Draft_num_p n a0 t0).bind fun d0=>(sadd ⟨#[117]⟩ (bstr ([u8ofI k0,u8ofI s0]:List UInt8))).bind fun u0=>(chk (9 * b0)).bind fun v0=>(chk (v0 + 1)).bind fun x0=>(wardmoteref22_Draft_list_p n a0 (((a0.fh % (3:UInt8)).toNat:Nat):Int) x0 d0).bind fun D0=>(chk (9 * b0)).bind fun y0=>(chk (y0 + 3)).bind fun z0=>(wardmoteref22_Draft_list_p n a0 (((a0.fc % (4:UInt8)).toNat:Nat):Int) z0 (255:Int)).bind fun E0=>Option.bind (loopF (wardmoteref22_Draft_Roll_l1 n a0 b0) n (0,([]:List Int))) (fun B0=>(app c0 ([(⟨u0,d0,D0,E0,B0,false⟩:TUnit)]:List TUnit)).bind fun C0=>(chk (b0 + 1)).bind fun A0=>g0 (A0,C0)) else some c0)
def wardmoteref22_Draft_Roll_p (n:Nat) (a0:TDraft50) (a1:Int):Option TRoll:=
  Option.bind (loopF (wardmoteref22_Draft_Roll_l3 n a1 a0) n (0,([]:List TUnit))) (fun c0=>Option.bind (loopF (wardmoteref22_Draft_Roll_l2 n a0) n (0,c0)) (fun b0=>some (⟨(((a0.fh % (3:UInt8)).toNat:Nat):Int),(((a0.fc % (4:UInt8)).toNat:Nat):Int),(((a0.fe % (3:UInt8)).toNat:Nat):Int),b0⟩:TRoll)))
theorem wardmoteref22_Draft_Roll_c (n:Nat) (L:List Nat) (w:World) (hL:∀ b ∈ L,b < w.heap.size) (a0:TDraft50) {v0_4:Value} (h0_4:Rep.R w L [v0_4] a0.fNums) (a1:Int)  {r:TRoll} (h:wardmoteref22_Draft_Roll_p n a0 a1 = some r) :
    Calls Tryz.prog 18 #[.agg #[.int .u8 (a0.fh.toNat:Int),.int .u8 (a0.fc.toNat:Int),.int .u8 (a0.fe.toNat:Int),.int .u8 (a0.fu.toNat:Int),v0_4],vI a1] w (Gives w fun w' u=>∃ v0_3:Value,u = .agg #[vI r.fh,vI r.fc,vI r.fe,v0_3]∧Rep.R w' L [v0_3] r.fo):=by
 unfold wardmoteref22_Draft_Roll_p at h
 have hS0:=Az w
 refine AB Tryz.func18 rfl rfl rfl (fun _ cs0 hb0=>?_)
 refine Ac<|Al .plain rfl (Aw hS0 rfl rfl) (fun F9 g0 C4 k9=>?_)
 refine Al .plain rfl (AD [vI 0,vI 0,vI 0,vN] C4) (fun K9 j0 X1 p9=>?_)
 refine Aa<|Ac<|Bg 0 rfl<|AY rfl ((X1.memA (.tl .hd)) 0 _ rfl)<|Ab (FV.rem8 (a:=a0.fh) (b:=(3:UInt8)) rfl rfl (by decide)) ?_
 have x9:=(a0.fh % (3:UInt8)).toNat_lt
 refine Ab (FV.convN (i:=(a0.fh % (3:UInt8)).toNat) Tryz.underlying5 Tryz.underlying3 rfl (by omega))<|Bg 1 rfl<|AY rfl ((X1.memA (.tl .hd)) 1 _ rfl)<|Ab (FV.rem8 (a:=a0.fc) (b:=(4:UInt8)) rfl rfl (by decide)) ?_
 have y9:=(a0.fc % (4:UInt8)).toNat_lt
 refine Ab (FV.convN (i:=(a0.fc % (4:UInt8)).toNat) Tryz.underlying5 Tryz.underlying3 rfl (by omega))<|Bg 2 rfl<|AY rfl ((X1.memA (.tl .hd)) 2 _ rfl)<|Ab (FV.rem8 (a:=a0.fe) (b:=(3:UInt8)) rfl rfl (by decide)) ?_
 have z9:=(a0.fe % (3:UInt8)).toNat_lt
 refine Ab (FV.convN (i:=(a0.fe % (3:UInt8)).toNat) Tryz.underlying5 Tryz.underlying3 rfl (by omega))<|Ab (AW (vs:=[vI (((a0.fh % (3:UInt8)).toNat:Nat):Int),vI (((a0.fc % (4:UInt8)).toNat:Nat):Int),vI (((a0.fe % (3:UInt8)).toNat:Nat):Int)]) (u:=.agg #[vI (((a0.fh % (3:UInt8)).toNat:Nat):Int),vI (((a0.fc % (4:UInt8)).toNat:Nat):Int),vI (((a0.fe % (3:UInt8)).toNat:Nat):Int),vN]) (e3 rfl rfl rfl) (fun w9=>by kernel_rfl))<|Al .plain rfl (AD [vI 0,vI 0,vI 0,vN] X1) (fun M9 p0 D4 q9=>?_)
 refine AZ [vI (((a0.fh % (3:UInt8)).toNat:Nat):Int),vI (((a0.fc % (4:UInt8)).toNat:Nat):Int),vI (((a0.fe % (3:UInt8)).toNat:Nat):Int),vN] D4 .hd (onesB rfl) (fun s8 g3 s9=>?_)
 refine Aa<|Aj<|Ac<|Af rfl<|Aa<|Ar ?_
 have y2:=g3.nilRow 96 (Rep.size TUnit)
 have t9:=St.nilRowT g3 96 (Rep.size TUnit)
 have x5:=AC (cs:=[]) (xs:=([]:List TUnit)) y2 L (AM _ _)
 have j3:=y2.nilRow 96 (Rep.size TUnit)
 have W4:=St.nilRowT y2 96 (Rep.size TUnit)
 have u9:=AC (cs:=[]) (xs:=([]:List TUnit)) j3 L (AM _ _)
 have A6:=AG x5 W4
 obtain ⟨B9,M6,H5⟩:=bind_in2 h
 refine Bc (α:=Int × (List TUnit) × Value × (List Value)) (fun ⟨P0,y0,d0,z0⟩=>[(1,vI a1),(2,vP g0),(4,vP j0),(5,vP p0),(6,vI P0)]) (fun ⟨P0,y0,d0,z0⟩ P1=>St w P1 [.row w.heap.size 96 (Rep.size TUnit) vN (([]:List TUnit).length) [],.row w.heap.size 96 (Rep.size TUnit) d0 y0.length z0,.cells p0 [vI (((a0.fh % (3:UInt8)).toNat:Nat):Int),vI (((a0.fc % (4:UInt8)).toNat:Nat):Int),vI (((a0.fe % (3:UInt8)).toNat:Nat):Int),d0] 58,.cells j0 [vI 0,vI 0,vI 0,vN] 58,.cells g0 [.int .u8 (a0.fh.toNat:Int),.int .u8 (a0.fc.toNat:Int),.int .u8 (a0.fe.toNat:Int),.int .u8 (a0.fu.toNat:Int),v0_4] 51]∧Tr s8 [.row w.heap.size 96 (Rep.size TUnit) vN (([]:List TUnit).length) [],.row w.heap.size 96 (Rep.size TUnit) vN (([]:List TUnit).length) [],.cells p0 [vI (((a0.fh % (3:UInt8)).toNat:Nat):Int),vI (((a0.fc % (4:UInt8)).toNat:Nat):Int),vI (((a0.fe % (3:UInt8)).toNat:Nat):Int),vN] 58,.cells j0 [vI 0,vI 0,vI 0,vN] 58,.cells g0 [.int .u8 (a0.fh.toNat:Int),.int .u8 (a0.fc.toNat:Int),.int .u8 (a0.fe.toNat:Int),.int .u8 (a0.fu.toNat:Int),v0_4] 51] P1 [.row w.heap.size 96 (Rep.size TUnit) vN (([]:List TUnit).length) [],.row w.heap.size 96 (Rep.size TUnit) d0 y0.length z0,.cells p0 [vI (((a0.fh % (3:UInt8)).toNat:Nat):Int),vI (((a0.fc % (4:UInt8)).toNat:Nat):Int),vI (((a0.fe % (3:UInt8)).toNat:Nat):Int),d0] 58,.cells j0 [vI 0,vI 0,vI 0,vN] 58,.cells g0 [.int .u8 (a0.fh.toNat:Int),.int .u8 (a0.fc.toNat:Int),.int .u8 (a0.fe.toNat:Int),.int .u8 (a0.fu.toNat:Int),v0_4] 51]∧Cells P1 (bl [.row w.heap.size 96 (Rep.size TUnit) vN (([]:List TUnit).length) [],.row w.heap.size 96 (Rep.size TUnit) d0 y0.length z0,.cells p0 [vI (((a0.fh % (3:UInt8)).toNat:Nat):Int),vI (((a0.fc % (4:UInt8)).toNat:Nat):Int),vI (((a0.fe % (3:UInt8)).toNat:Nat):Int),d0] 58,.cells j0 [vI 0,vI 0,vI 0,vN] 58,.cells g0 [.int .u8 (a0.fh.toNat:Int),.int .u8 (a0.fc.toNat:Int),.int .u8 (a0.fe.toNat:Int),.int .u8 (a0.fu.toNat:Int),v0_4] 51] ++ L) z0 y0) (fun ⟨P0,y0,d0,z0⟩=>(P0,y0)) (0,([]:List TUnit),vN,[]) M6 ⟨rfl,rfl,rfl,rfl,rfl,trivial⟩ ⟨j3,AS _ _,A6⟩ ?_
 rintro M8 ⟨P0,y0,d0,z0⟩ P1 s4 ⟨J1,X4,D3⟩ h
 unfold wardmoteref22_Draft_Roll_l3 at h
 try dsimp only at h
 refine Aj<|Ac<|Ae rfl<|Ae rfl<|Ab (FV.lss (i:=P0) (j:=a1) rfl rfl)<|Aa<|AP rfl h (fun d4 h=>?_) (fun d4 h=>?_)
 refine Ao<|Aj<|Ar<|Aj<|dt 18 tb18_5 (fun q0 u0=>?_)
 refine Ag 0 1 q0 rfl u0 (fun _=>Ai rfl) rfl ?_
 obtain ⟨W7,j7,h⟩:=bi h
 refine Ag 1 3 q0 rfl u0 (fun _=>FV.remc (i:=P0) (j:=26) rfl rfl j7) rfl ?_
 obtain ⟨G0,k7,h⟩:=bi h
 refine Ag 2 7 q0 rfl u0 (fun _=>FV.addc (i:=97) (j:=W7) rfl rfl k7) rfl<|Ag 3 15 q0 rfl u0 (fun _=>FV.convU8 (i:=G0) Tryz.underlying3 Tryz.underlying5 rfl) rfl<|Ag 4 31 q0 rfl u0 (fun _=>Ai rfl) rfl ?_
 obtain ⟨X7,p7,h⟩:=bi h
 refine Ag 5 63 q0 rfl u0 (fun _=>FV.quoc (i:=P0) (j:=26) rfl rfl p7) rfl ?_
 obtain ⟨Y7,q7,h⟩:=bi h
 refine Ag 6 127 q0 rfl u0 (fun _=>FV.remc (i:=X7) (j:=26) rfl rfl q7) rfl ?_
 obtain ⟨x0,s7,h⟩:=bi h
 refine Ag 7 255 q0 rfl u0 (fun _=>FV.addc (i:=97) (j:=Y7) rfl rfl s7) rfl<|Ag 8 511 q0 rfl u0 (fun _=>FV.convU8 (i:=x0) Tryz.underlying3 Tryz.underlying5 rfl) rfl<|AE 12 4607 360448 q0 rfl u0 (AJ rfl (J1.memA (.tl (.tl (.tl (.tl .hd)))))) rfl<|Ag 13 12799 q0 rfl u0 (fun _=>Ai rfl) rfl ?_
 obtain ⟨Z7,t7,h⟩:=bi h
 refine Ag 14 29183 q0 rfl u0 (fun _=>FV.mulc (i:=9) (j:=P0) rfl rfl t7) rfl ?_
 obtain ⟨s0,Q7,h⟩:=bi h
 refine RD.cq 15 61951 327680 (vI s0) q0 rfl u0 body52 rfl (e2 rfl rfl) (fun w9 hw9=>wardmoteref22_Draft_num_c n _ w9 (J1.hL0 hL hw9) a0 (J1.k0 h0_4 hw9) Z7 Q7) rfl ?_
 obtain ⟨t0,Y3,h⟩:=bi h
 refine RD.meet (α:=Nat) (fun k1=>[(1,vI a1),(2,vP g0),(4,vP j0),(5,vP p0),(6,vI P0),(44,.agg #[.string t0,vI s0,vN,vN,vN,.bool false]),(7,vP k1)]) (fun k1 b3=>St w b3 [.cells k1 [.string ⟨#[]⟩,vI 0,vN,vN,vN,.bool false] 96,.row w.heap.size 96 (Rep.size TUnit) vN (([]:List TUnit).length) [],.row w.heap.size 96 (Rep.size TUnit) d0 y0.length z0,.cells p0 [vI (((a0.fh % (3:UInt8)).toNat:Nat):Int),vI (((a0.fc % (4:UInt8)).toNat:Nat):Int),vI (((a0.fe % (3:UInt8)).toNat:Nat):Int),d0] 58,.cells j0 [vI 0,vI 0,vI 0,vN] 58,.cells g0 [.int .u8 (a0.fh.toNat:Int),.int .u8 (a0.fc.toNat:Int),.int .u8 (a0.fe.toNat:Int),.int .u8 (a0.fu.toNat:Int),v0_4] 51]∧Tr P1 [.row w.heap.size 96 (Rep.size TUnit) vN (([]:List TUnit).length) [],.row w.heap.size 96 (Rep.size TUnit) d0 y0.length z0,.cells p0 [vI (((a0.fh % (3:UInt8)).toNat:Nat):Int),vI (((a0.fc % (4:UInt8)).toNat:Nat):Int),vI (((a0.fe % (3:UInt8)).toNat:Nat):Int),d0] 58,.cells j0 [vI 0,vI 0,vI 0,vN] 58,.cells g0 [.int .u8 (a0.fh.toNat:Int),.int .u8 (a0.fc.toNat:Int),.int .u8 (a0.fe.toNat:Int),.int .u8 (a0.fu.toNat:Int),v0_4] 51] b3 [.cells k1 [.string ⟨#[]⟩,vI 0,vN,vN,vN,.bool false] 96,.row w.heap.size 96 (Rep.size TUnit) vN (([]:List TUnit).length) [],.row w.heap.size 96 (Rep.size TUnit) d0 y0.length z0,.cells p0 [vI (((a0.fh % (3:UInt8)).toNat:Nat):Int),vI (((a0.fc % (4:UInt8)).toNat:Nat):Int),vI (((a0.fe % (3:UInt8)).toNat:Nat):Int),d0] 58,.cells j0 [vI 0,vI 0,vI 0,vN] 58,.cells g0 [.int .u8 (a0.fh.toNat:Int),.int .u8 (a0.fc.toNat:Int),.int .u8 (a0.fe.toNat:Int),.int .u8 (a0.fu.toNat:Int),v0_4] 51]) 1 262143 ?_ ?_
 rintro k1 b3 ⟨E4,Y4⟩
 try dsimp only
 refine Bz 18 524287 q0 rfl rfl .plain (Ay (news:=[.string t0,vI s0,vN,vN,vN,.bool false]) E4 .hd rfl rfl rfl rfl rfl rfl (onesB rfl)) (fun P9 K1 Z4=>?_)
 refine AK (dk q0)<|Ac<|Ab (AJ rfl (K1.memA (.tl (.tl (.tl (.tl (.tl .hd)))))))<|Bg 0 rfl<|Ab (AF rfl ((K1.memA (.tl (.tl (.tl .hd)))) 0 _ rfl))<|Ae rfl ?_
 obtain ⟨b8,u7,h⟩:=bi h
 refine Ab (FV.mulc (i:=9) (j:=P0) rfl rfl u7) ?_
 obtain ⟨c8,v7,h⟩:=bi h
 refine Ab (FV.addc (i:=b8) (j:=1) rfl rfl v7)<|Bg 1 rfl<|AY rfl ((K1.memA .hd) 1 _ rfl) ?_
 obtain ⟨q2,R7,h⟩:=bi h
 refine Bp (fst:=[]) (cap:=[]) .plain body53 rfl (e4 rfl rfl rfl rfl) (fun w9 hw9=>wardmoteref22_Draft_list_c n _ w9 (K1.hL hL hw9) a0 (K1.km h0_4 hw9) (((a0.fh % (3:UInt8)).toNat:Nat):Int) c8 s0 R7) rfl (fun Q9 Q0 k5 ⟨D9,hu_,c2⟩=>?_)
 subst hu_
 obtain ⟨F4,b5⟩:=K1.agr k5
 refine Bg 2 rfl<|RG.now .plain (BA (j:=2) (old:=[.string t0,vI s0,vN,vN,vN,.bool false]) (news:=[Q0]) (new' :=[.string t0,vI s0,Q0,vN,vN,.bool false]) F4 .hd rfl rfl rfl (Rep.c1 c2) rfl rfl (o1 (Bk c2)) rfl) (fun R9 Q1 u3=>?_)
 refine Aa<|Ac<|Ab (AJ rfl (Q1.memA (.tl (.tl (.tl (.tl (.tl .hd)))))))<|Bg 1 rfl<|Ab (AF rfl ((Q1.memA (.tl (.tl (.tl .hd)))) 1 _ rfl))<|Ae rfl ?_
 obtain ⟨d8,x7,h⟩:=bi h
 refine Ab (FV.mulc (i:=9) (j:=P0) rfl rfl x7) ?_
 obtain ⟨g8,y7,h⟩:=bi h
 refine Ab (FV.addc (i:=d8) (j:=3) rfl rfl y7) ?_
 obtain ⟨s2,U7,h⟩:=bi h
 refine Bp (fst:=[]) (cap:=[]) .plain body53 rfl (e4 rfl rfl rfl rfl) (fun w9 hw9=>wardmoteref22_Draft_list_c n _ w9 (Q1.hL hL hw9) a0 (Q1.km h0_4 hw9) (((a0.fc % (4:UInt8)).toNat:Nat):Int) g8 (255:Int) U7) rfl (fun U9 Y0 p5 ⟨E9,hu_,d2⟩=>?_)
 subst hu_
 obtain ⟨G4,v3⟩:=Q1.agr p5
 refine Bg 3 rfl<|RG.now .plain (BA (j:=3) (old:=[.string t0,vI s0,Q0,vN,vN,.bool false]) (news:=[Y0]) (new' :=[.string t0,vI s0,Q0,Y0,vN,.bool false]) G4 .hd rfl rfl rfl (Rep.c1 d2) rfl rfl (o1 (Bk d2)) rfl) (fun x8 k3 R2=>?_)
 refine Aa<|Aj<|Ac<|Af rfl<|Aa<|Ar ?_
 have p3:=k3.nilRow 3 (Rep.size Int)
 have U2:=St.nilRowT k3 3 (Rep.size Int)
 have y5:=AC (cs:=[]) (xs:=([]:List Int)) p3 L (AM _ _)
 obtain ⟨C9,P6,I5⟩:=bind_in2 h
 refine Bc (α:=Nat × (List Int) × Value × (List Value)) (fun ⟨z1,W0,K0,E1⟩=>[(1,vI a1),(2,vP g0),(4,vP j0),(5,vP p0),(6,vI P0),(7,vP k1),(8,vI ((z1:Nat):Int))]) (fun ⟨z1,W0,K0,E1⟩ p2=>St w p2 [.row w.heap.size 3 (Rep.size Int) K0 W0.length E1,.cells k1 [.string t0,vI s0,Q0,Y0,K0,.bool false] 96,.row w.heap.size 96 (Rep.size TUnit) vN (([]:List TUnit).length) [],.row w.heap.size 96 (Rep.size TUnit) d0 y0.length z0,.cells p0 [vI (((a0.fh % (3:UInt8)).toNat:Nat):Int),vI (((a0.fc % (4:UInt8)).toNat:Nat):Int),vI (((a0.fe % (3:UInt8)).toNat:Nat):Int),d0] 58,.cells j0 [vI 0,vI 0,vI 0,vN] 58,.cells g0 [.int .u8 (a0.fh.toNat:Int),.int .u8 (a0.fc.toNat:Int),.int .u8 (a0.fe.toNat:Int),.int .u8 (a0.fu.toNat:Int),v0_4] 51]∧Tr x8 [.row w.heap.size 3 (Rep.size Int) vN (([]:List Int).length) [],.cells k1 [.string t0,vI s0,Q0,Y0,vN,.bool false] 96,.row w.heap.size 96 (Rep.size TUnit) vN (([]:List TUnit).length) [],.row w.heap.size 96 (Rep.size TUnit) d0 y0.length z0,.cells p0 [vI (((a0.fh % (3:UInt8)).toNat:Nat):Int),vI (((a0.fc % (4:UInt8)).toNat:Nat):Int),vI (((a0.fe % (3:UInt8)).toNat:Nat):Int),d0] 58,.cells j0 [vI 0,vI 0,vI 0,vN] 58,.cells g0 [.int .u8 (a0.fh.toNat:Int),.int .u8 (a0.fc.toNat:Int),.int .u8 (a0.fe.toNat:Int),.int .u8 (a0.fu.toNat:Int),v0_4] 51] p2 [.row w.heap.size 3 (Rep.size Int) K0 W0.length E1,.cells k1 [.string t0,vI s0,Q0,Y0,K0,.bool false] 96,.row w.heap.size 96 (Rep.size TUnit) vN (([]:List TUnit).length) [],.row w.heap.size 96 (Rep.size TUnit) d0 y0.length z0,.cells p0 [vI (((a0.fh % (3:UInt8)).toNat:Nat):Int),vI (((a0.fc % (4:UInt8)).toNat:Nat):Int),vI (((a0.fe % (3:UInt8)).toNat:Nat):Int),d0] 58,.cells j0 [vI 0,vI 0,vI 0,vN] 58,.cells g0 [.int .u8 (a0.fh.toNat:Int),.int .u8 (a0.fc.toNat:Int),.int .u8 (a0.fe.toNat:Int),.int .u8 (a0.fu.toNat:Int),v0_4] 51]∧Cells p2 (bl [.row w.heap.size 3 (Rep.size Int) K0 W0.length E1,.cells k1 [.string t0,vI s0,Q0,Y0,K0,.bool false] 96,.row w.heap.size 96 (Rep.size TUnit) vN (([]:List TUnit).length) [],.row w.heap.size 96 (Rep.size TUnit) d0 y0.length z0,.cells p0 [vI (((a0.fh % (3:UInt8)).toNat:Nat):Int),vI (((a0.fc % (4:UInt8)).toNat:Nat):Int),vI (((a0.fe % (3:UInt8)).toNat:Nat):Int),d0] 58,.cells j0 [vI 0,vI 0,vI 0,vN] 58,.cells g0 [.int .u8 (a0.fh.toNat:Int),.int .u8 (a0.fc.toNat:Int),.int .u8 (a0.fe.toNat:Int),.int .u8 (a0.fu.toNat:Int),v0_4] 51] ++ L) E1 W0) (fun ⟨z1,W0,K0,E1⟩=>(z1,W0)) (0,([]:List Int),vN,[]) P6 ⟨rfl,rfl,rfl,rfl,rfl,rfl,rfl,trivial⟩ ⟨p3,AS _ _,y5⟩ ?_
 rintro P8 ⟨z1,W0,K0,E1⟩ p2 t4 ⟨b1,Z1,E3⟩ h
 unfold wardmoteref22_Draft_Roll_l1 at h
 try dsimp only at h
 refine Aj<|Ac<|Ae rfl<|Bg 2 rfl<|Ab (AF rfl ((b1.memA (.tl (.tl (.tl (.tl .hd))))) 2 _ rfl))<|Ab (Bf (i:=z1) (j:=(a0.fe % (3:UInt8)).toNat) rfl rfl)<|Aa<|AP rfl h (fun g4 h=>?_) (fun g4 h=>?_)
 refine Ao<|Aj<|Ar<|dt 11 tb18_11 (fun v0 x1=>?_)
 refine Ag 0 1 v0 rfl x1 (fun _=>Bj 4 rfl) rfl<|AE 1 3 14336 v0 rfl x1 (AF rfl ((b1.memA (.tl .hd)) 4 _ rfl)) rfl<|AE 2 7 16128 v0 rfl x1 (AJ rfl (b1.memA (.tl (.tl (.tl (.tl (.tl (.tl .hd)))))))) rfl<|Ag 3 15 v0 rfl x1 (fun _=>Ai rfl) rfl ?_
 obtain ⟨j8,z7,h⟩:=bi h
 refine Ag 4 31 v0 rfl x1 (fun _=>FV.mulc (i:=9) (j:=P0) rfl rfl z7) rfl ?_
 obtain ⟨k8,A7,h⟩:=bi h
 refine Ag 5 63 v0 rfl x1 (fun _=>FV.addc (i:=j8) (j:=7) rfl rfl A7) rfl<|Ag 6 127 v0 rfl x1 (fun _=>Ai rfl) rfl ?_
 obtain ⟨p8,B7,h⟩:=bi h
 refine Ag 7 255 v0 rfl x1 (fun _=>FV.addc (i:=k8) (j:=((z1:Nat):Int)) rfl rfl B7) rfl ?_
 obtain ⟨Z3,V7,h⟩:=bi h
 refine RD.cq 8 511 15872 (vI Z3) v0 rfl x1 body52 rfl (e2 rfl rfl) (fun w9 hw9=>wardmoteref22_Draft_num_c n _ w9 (b1.hL0 hL hw9) a0 (b1.k0 h0_4 hw9) p8 V7) rfl ?_
 obtain ⟨G1,C7,h⟩:=bi h
 refine Ag 9 1023 v0 rfl x1 (fun _=>FV.remc (i:=Z3) (j:=3) rfl rfl C7) rfl<|RD.nu 10 2047 v0 rfl .plain rfl (AX (α:=Int) (xs:=([G1]:List Int)) (vs:=[vI G1]) (ds' :=[vI G1]) rfl b1 el52 rfl (e1 rfl) (by kernel_rfl) rfl) (fun V9 R8 A2 x3=>?_)
 have z5:=AC (cs:=[vI G1]) (xs:=(([G1]:List Int):List Int)) A2 L (Aq (cs:=[vI G1]) (ds:=[]) rfl (AM _ _))
 obtain ⟨z8,M7,h⟩:=bi h
 have B6:=AG E3 x3
 refine BC (i:=11) (rk v0) (RO.doesL (m' :=4095) (sk v0) rfl rfl .plain rfl (DoesL.app (α:=Int) (ys:=([G1]:List Int)) M7 A2 (fun _ _=>(.tl .hd)) el52 rfl rfl B6 (Src.row (α:=Int) A2 .hd z5)) (fun Y2 W9 ⟨k4,B2,c5,A5⟩=>?_))
 refine BC (i:=12) (rk v0) (RO.val (m' :=8191) (sk v0) rfl .plain rfl (Bj 4 rfl) ?_)
 refine Bz 13 16383 v0 rfl rfl .plain (BA (j:=4) (old:=[.string t0,vI s0,Q0,Y0,K0,.bool false]) (news:=[Y2]) (new' :=[.string t0,vI s0,Q0,Y0,Y2,.bool false]) B2 (.tl (.tl .hd)) rfl rfl rfl (St.c1 (α:=Int) B2 (.tl .hd)) rfl rfl (o1 (St.o1 (α:=Int) B2 (.tl .hd))) rfl) (fun X9 H4 y3=>?_)
 refine AK (dk v0)<|Au<|Am<|Ae rfl<|Ab (Bi (i:=z1) (j:=1) rfl rfl (by omega))<|Af rfl<|Aa ?_
 obtain ⟨I4,z3⟩:=AI H4 (.one (.tl .hd) (.one (.tl .hd) (.one (.tl .hd) (.one (.tl .hd) (.one (.tl .hd) (.one (.tl .hd) (.one (.tl .hd) .done)))))))
 have C6:=AG A5 (Tt y3 z3)
 have U6:=Tt x3 (Tt c5 (Tt y3 z3))
 exact t4 (z1 + 1,z8,Y2,k4) _ _ ⟨rfl,rfl,rfl,rfl,rfl,rfl,rfl,trivial⟩ ⟨I4,(Tt Z1 U6),C6⟩ h
 refine AU rfl ?_
 have h:=I5 _ h
 try dsimp only at h
 refine Am<|Bg 3 rfl<|Ab (AF rfl ((b1.memA (.tl (.tl (.tl (.tl .hd))))) 3 _ rfl))<|Ab (AJ rfl (b1.memA (.tl .hd))) ?_
 have g7:=Bv (α:=Int) b1 .hd E3 hL
 have q3:=St.delS b1 .hd
 have V2:=St.delT b1 .hd
 have X3:=Rep.at_ (α:=Int) (v:=K0) (xs:=W0) q3 L g7
 have P3:=Tt u3 (Tt v3 (Tt R2 (Tt U2 (Tt Z1 V2))))
 have D6:=AA c2 P3
 have Q3:=Tt R2 (Tt U2 (Tt Z1 V2))
 have E6:=AA d2 Q3
 obtain ⟨H8,c9,H7,_⟩:=Rep.sl D6
 obtain ⟨I8,d9,I7,_⟩:=Rep.sl E6
 obtain ⟨J8,g9,J7,_⟩:=Rep.sl X3
 refine Al .plain rfl (AX (α:=TUnit) (xs:=([(⟨t0,s0,q2,s2,W0,false⟩:TUnit)]:List TUnit)) (vs:=[.agg #[.string t0,vI s0,Q0,Y0,K0,.bool false]]) (ds' :=[.string t0,vI s0,Q0,Y0,K0,.bool false]) rfl q3 el56 rfl (e1 rfl) (by rw [H7,I7,J7]; try kernel_rfl) rfl) (fun Y9 U8 C2 b2=>?_)
 have F6:=AA c2 (Tt P3 b2)
 have G6:=AA d2 (Tt Q3 b2)
 have H6:=AA X3 b2
 have B5:=AC (cs:=[.string t0,vI s0,Q0,Y0,K0,.bool false]) (xs:=(([(⟨t0,s0,q2,s2,W0,false⟩:TUnit)]:List TUnit):List TUnit)) C2 L (Aq (cs:=[.string t0,vI s0,Q0,Y0,K0,.bool false]) (ds:=[]) (mk_TUnit t0 s0 q2 F6 s2 G6 W0 H6 false) (AM _ _))
 obtain ⟨A8,P7,h⟩:=bi h
 have R3:=Tt Y4 (Tt Z4 (Tt b5 (Tt u3 (Tt v3 (Tt R2 (Tt U2 (Tt Z1 (Tt V2 b2))))))))
 have I6:=AG D3 R3
 refine RG.doesL .plain rfl (DoesL.app (α:=TUnit) (ys:=([(⟨t0,s0,q2,s2,W0,false⟩:TUnit)]:List TUnit)) P7 C2 (fun _ _=>(.tl (.tl (.tl .hd)))) el56 rfl rfl I6 (Src.row (α:=TUnit) C2 .hd B5)) (fun Z2 Z9 ⟨p4,D2,d5,C5⟩=>?_)
 refine Bg 3 rfl<|RG.now .plain (BA (j:=3) (old:=[vI (((a0.fh % (3:UInt8)).toNat:Nat):Int),vI (((a0.fc % (4:UInt8)).toNat:Nat):Int),vI (((a0.fe % (3:UInt8)).toNat:Nat):Int),d0]) (news:=[Z2]) (new' :=[vI (((a0.fh % (3:UInt8)).toNat:Nat):Int),vI (((a0.fc % (4:UInt8)).toNat:Nat):Int),vI (((a0.fe % (3:UInt8)).toNat:Nat):Int),Z2]) D2 (.tl (.tl (.tl (.tl .hd)))) rfl rfl rfl (St.c1 (α:=TUnit) D2 (.tl (.tl (.tl .hd)))) rfl rfl (o1 (St.o1 (α:=TUnit) D2 (.tl (.tl (.tl .hd))))) rfl) (fun b00 J4 A3=>?_)
 refine Aa<|Au<|Am<|Ae rfl ?_
 obtain ⟨q8,D7,h⟩:=bi h
 refine Ab (FV.addc (i:=P0) (j:=1) rfl rfl D7)<|Af rfl<|Aa ?_
 obtain ⟨K4,B3⟩:=AI J4 (.one (.tl (.tl .hd)) (.one (.tl (.tl .hd)) (.one (.tl (.tl .hd)) (.one (.tl (.tl .hd)) (.one (.tl (.tl .hd)) .done)))))
 have J6:=AG C5 (Tt A3 B3)
 have V6:=Tt R3 (Tt d5 (Tt A3 B3))
 exact s4 (q8,A8,Z2,p4) _ _ ⟨rfl,rfl,rfl,rfl,rfl,trivial⟩ ⟨K4,(Tt X4 V6),J6⟩ h
 intro c3
 refine RD.each [9,17] (rk q0) ⟨?_,?_,trivial⟩
 refine RO.new (m' :=62463) (sk q0) rfl .plain rfl (AX (α:=UInt8) (xs:=([u8ofI G0,u8ofI x0]:List UInt8)) (vs:=[.int .u8 ((u8ofI G0).toNat:Int),.int .u8 ((u8ofI x0).toNat:Int)]) (ds' :=[.int .u8 ((u8ofI G0).toNat:Int),.int .u8 ((u8ofI x0).toNat:Int)]) rfl J1 el46 rfl (e2 rfl rfl) (by kernel_rfl) rfl) (fun t8 b4 F1 P2=>?_)
 have W2:=AC (cs:=[.int .u8 ((u8ofI G0).toNat:Int),.int .u8 ((u8ofI x0).toNat:Int)]) (xs:=(([u8ofI G0,u8ofI x0]:List UInt8):List UInt8)) F1 L (Aq (cs:=[.int .u8 ((u8ofI G0).toNat:Int)]) (ds:=[.int .u8 ((u8ofI x0).toNat:Int)]) rfl (Aq (cs:=[.int .u8 ((u8ofI x0).toNat:Int)]) (ds:=[]) rfl (AM _ _)))
 refine AE 10 63487 329728 q0 rfl u0 (FV.bytesS (xs:=([u8ofI G0,u8ofI x0]:List UInt8)) Tryz.underlying46 Tryz.underlying9 Tryz.underlying5 rfl (Src.row (α:=UInt8) F1 .hd W2)) rfl<|Ag 11 65535 q0 rfl u0 (fun _=>FV.addS Y3 rfl rfl) rfl<|Ag 16 131071 q0 rfl u0 (fun _=>AW (vs:=[.string t0,vI s0]) (u:=.agg #[.string t0,vI s0,vN,vN,vN,.bool false]) (e2 rfl rfl) (fun w9=>by kernel_rfl)) rfl<|RD.nu 17 262143 q0 rfl .plain rfl (AD [.string ⟨#[]⟩,vI 0,vN,vN,vN,.bool false] F1) (fun v8 t2 z2 Q2=>?_)
 obtain ⟨M4,g5⟩:=AI z2 (.one .hd (.one (.tl .hd) (.one (.tl .hd) (.one (.tl .hd) (.one (.tl .hd) (.one (.tl .hd) .done))))))
 have W6:=Tt P2 (Tt Q2 g5)
 exact c3 t2 _ _ ⟨rfl,rfl,rfl,rfl,rfl,rfl,rfl,trivial⟩ ⟨M4,W6⟩
 refine RO.new (m' :=193023) (sk q0) rfl .plain rfl (AD [.string ⟨#[]⟩,vI 0,vN,vN,vN,.bool false] J1) (fun v8 t2 z2 Q2=>?_)
 refine RD.nu 9 193535 q0 rfl .plain rfl (AX (α:=UInt8) (xs:=([u8ofI G0,u8ofI x0]:List UInt8)) (vs:=[.int .u8 ((u8ofI G0).toNat:Int),.int .u8 ((u8ofI x0).toNat:Int)]) (ds' :=[.int .u8 ((u8ofI G0).toNat:Int),.int .u8 ((u8ofI x0).toNat:Int)]) rfl z2 el46 rfl (e2 rfl rfl) (by kernel_rfl) rfl) (fun t8 b4 F1 P2=>?_)
 have W2:=AC (cs:=[.int .u8 ((u8ofI G0).toNat:Int),.int .u8 ((u8ofI x0).toNat:Int)]) (xs:=(([u8ofI G0,u8ofI x0]:List UInt8):List UInt8)) F1 L (Aq (cs:=[.int .u8 ((u8ofI G0).toNat:Int)]) (ds:=[.int .u8 ((u8ofI x0).toNat:Int)]) rfl (Aq (cs:=[.int .u8 ((u8ofI x0).toNat:Int)]) (ds:=[]) rfl (AM _ _)))
 refine AE 10 194559 329728 q0 rfl u0 (FV.bytesS (xs:=([u8ofI G0,u8ofI x0]:List UInt8)) Tryz.underlying46 Tryz.underlying9 Tryz.underlying5 rfl (Src.row (α:=UInt8) F1 .hd W2)) rfl<|Ag 11 196607 q0 rfl u0 (fun _=>FV.addS Y3 rfl rfl) rfl<|Ag 16 262143 q0 rfl u0 (fun _=>AW (vs:=[.string t0,vI s0]) (u:=.agg #[.string t0,vI s0,vN,vN,vN,.bool false]) (e2 rfl rfl) (fun w9=>by kernel_rfl)) rfl ?_
 obtain ⟨P4,j5⟩:=AI F1 (.one (.tl .hd) (.one (.tl .hd) (.one (.tl .hd) (.one (.tl .hd) (.one (.tl .hd) (.one (.tl .hd) .done))))))
 have X6:=Tt Q2 (Tt P2 j5)
 exact c3 t2 _ _ ⟨rfl,rfl,rfl,rfl,rfl,rfl,rfl,trivial⟩ ⟨P4,X6⟩
 refine AU rfl ?_
 have h:=H5 _ h
 try dsimp only at h
 refine Aj<|Ac<|Af rfl<|Aa<|Ar ?_
 obtain ⟨A9,K6,G5⟩:=bind_in2 h
 refine Bc (α:=Nat × (List TUnit) × Value × (List Value)) (fun ⟨y1,M0,c0,R0⟩=>[(2,vP g0),(4,vP j0),(5,vP p0),(9,vI ((y1:Nat):Int))]) (fun ⟨y1,M0,c0,R0⟩ R1=>St w R1 [.row w.heap.size 96 (Rep.size TUnit) vN (([]:List TUnit).length) [],.row w.heap.size 96 (Rep.size TUnit) c0 M0.length R0,.cells p0 [vI (((a0.fh % (3:UInt8)).toNat:Nat):Int),vI (((a0.fc % (4:UInt8)).toNat:Nat):Int),vI (((a0.fe % (3:UInt8)).toNat:Nat):Int),c0] 58,.cells j0 [vI 0,vI 0,vI 0,vN] 58,.cells g0 [.int .u8 (a0.fh.toNat:Int),.int .u8 (a0.fc.toNat:Int),.int .u8 (a0.fe.toNat:Int),.int .u8 (a0.fu.toNat:Int),v0_4] 51]∧Tr P1 [.row w.heap.size 96 (Rep.size TUnit) vN (([]:List TUnit).length) [],.row w.heap.size 96 (Rep.size TUnit) d0 y0.length z0,.cells p0 [vI (((a0.fh % (3:UInt8)).toNat:Nat):Int),vI (((a0.fc % (4:UInt8)).toNat:Nat):Int),vI (((a0.fe % (3:UInt8)).toNat:Nat):Int),d0] 58,.cells j0 [vI 0,vI 0,vI 0,vN] 58,.cells g0 [.int .u8 (a0.fh.toNat:Int),.int .u8 (a0.fc.toNat:Int),.int .u8 (a0.fe.toNat:Int),.int .u8 (a0.fu.toNat:Int),v0_4] 51] R1 [.row w.heap.size 96 (Rep.size TUnit) vN (([]:List TUnit).length) [],.row w.heap.size 96 (Rep.size TUnit) c0 M0.length R0,.cells p0 [vI (((a0.fh % (3:UInt8)).toNat:Nat):Int),vI (((a0.fc % (4:UInt8)).toNat:Nat):Int),vI (((a0.fe % (3:UInt8)).toNat:Nat):Int),c0] 58,.cells j0 [vI 0,vI 0,vI 0,vN] 58,.cells g0 [.int .u8 (a0.fh.toNat:Int),.int .u8 (a0.fc.toNat:Int),.int .u8 (a0.fe.toNat:Int),.int .u8 (a0.fu.toNat:Int),v0_4] 51]∧Cells R1 (bl [.row w.heap.size 96 (Rep.size TUnit) vN (([]:List TUnit).length) [],.row w.heap.size 96 (Rep.size TUnit) c0 M0.length R0,.cells p0 [vI (((a0.fh % (3:UInt8)).toNat:Nat):Int),vI (((a0.fc % (4:UInt8)).toNat:Nat):Int),vI (((a0.fe % (3:UInt8)).toNat:Nat):Int),c0] 58,.cells j0 [vI 0,vI 0,vI 0,vN] 58,.cells g0 [.int .u8 (a0.fh.toNat:Int),.int .u8 (a0.fc.toNat:Int),.int .u8 (a0.fe.toNat:Int),.int .u8 (a0.fu.toNat:Int),v0_4] 51] ++ L) R0 M0) (fun ⟨y1,M0,c0,R0⟩=>(y1,M0)) (0,y0,d0,z0) K6 ⟨rfl,rfl,rfl,rfl,trivial⟩ ⟨J1,AS _ _,D3⟩ ?_
 rintro K8 ⟨y1,M0,c0,R0⟩ R1 q4 ⟨Z0,Q4,C3⟩ h
 unfold wardmoteref22_Draft_Roll_l2 at h
 try dsimp only at h
 refine Aj<|Ac<|Ae rfl<|Bg 3 rfl<|Ab (AF rfl ((Z0.memA (.tl (.tl (.tl (.tl .hd))))) 3 _ rfl))<|Ab (FV.rem8 (a:=a0.fu) (b:=(2:UInt8)) rfl rfl (by decide)) ?_
 have v9:=(a0.fu % (2:UInt8)).toNat_lt
 refine Ab (FV.convN (i:=(a0.fu % (2:UInt8)).toNat) Tryz.underlying5 Tryz.underlying3 rfl (by omega))<|Ab (Bf (i:=y1) (j:=(a0.fu % (2:UInt8)).toNat) rfl rfl)<|Aa<|AP rfl h (fun c4 h=>?_) (fun c4 h=>?_)
 refine Ao<|Aj<|Ar<|dt 13 tb18_16 (fun b0 A1=>?_)
 refine Ag 0 1 b0 rfl A1 (fun _=>Bj 3 rfl) rfl<|AE 1 3 57344 b0 rfl A1 (AF rfl ((Z0.memA (.tl (.tl .hd))) 3 _ rfl)) rfl<|Ag 2 7 b0 rfl A1 (fun _=>Bj 0 rfl) rfl<|AE 3 15 63504 b0 rfl A1 (AF rfl ((Z0.memA (.tl (.tl .hd))) 0 _ rfl)) rfl<|Ag 5 47 b0 rfl A1 (fun _=>Bj 1 rfl) rfl<|AE 6 111 63616 b0 rfl A1 (AF rfl ((Z0.memA (.tl (.tl .hd))) 1 _ rfl)) rfl<|Ag 8 367 b0 rfl A1 (fun _=>Bj 2 rfl) rfl<|AE 9 879 64512 b0 rfl A1 (AF rfl ((Z0.memA (.tl (.tl .hd))) 2 _ rfl)) rfl ?_
 obtain ⟨A0,t1,h⟩:=bi h
 obtain ⟨B0,u1,h⟩:=bi h
 obtain ⟨C0,v1,h⟩:=bi h
 refine RD.meet (α:=Value × (List Value) × Value × (List Value) × Value × (List Value)) (fun ⟨H0,B1,I0,C1,J0,D1⟩=>[(2,vP g0),(4,vP j0),(5,vP p0),(9,vI ((y1:Nat):Int)),(97,c0),(100,J0),(103,I0),(106,H0)]) (fun ⟨H0,B1,I0,C1,J0,D1⟩ M1=>St w M1 [.row w.heap.size 3 (Rep.size Int) H0 C0.length B1,.row w.heap.size 3 (Rep.size Int) I0 B0.length C1,.row w.heap.size 3 (Rep.size Int) J0 A0.length D1,.row w.heap.size 96 (Rep.size TUnit) vN (([]:List TUnit).length) [],.row w.heap.size 96 (Rep.size TUnit) c0 M0.length R0,.cells p0 [vI (((a0.fh % (3:UInt8)).toNat:Nat):Int),vI (((a0.fc % (4:UInt8)).toNat:Nat):Int),vI (((a0.fe % (3:UInt8)).toNat:Nat):Int),c0] 58,.cells j0 [vI 0,vI 0,vI 0,vN] 58,.cells g0 [.int .u8 (a0.fh.toNat:Int),.int .u8 (a0.fc.toNat:Int),.int .u8 (a0.fe.toNat:Int),.int .u8 (a0.fu.toNat:Int),v0_4] 51]∧Tr R1 [.row w.heap.size 96 (Rep.size TUnit) vN (([]:List TUnit).length) [],.row w.heap.size 96 (Rep.size TUnit) c0 M0.length R0,.cells p0 [vI (((a0.fh % (3:UInt8)).toNat:Nat):Int),vI (((a0.fc % (4:UInt8)).toNat:Nat):Int),vI (((a0.fe % (3:UInt8)).toNat:Nat):Int),c0] 58,.cells j0 [vI 0,vI 0,vI 0,vN] 58,.cells g0 [.int .u8 (a0.fh.toNat:Int),.int .u8 (a0.fc.toNat:Int),.int .u8 (a0.fe.toNat:Int),.int .u8 (a0.fu.toNat:Int),v0_4] 51] M1 [.row w.heap.size 3 (Rep.size Int) H0 C0.length B1,.row w.heap.size 3 (Rep.size Int) I0 B0.length C1,.row w.heap.size 3 (Rep.size Int) J0 A0.length D1,.row w.heap.size 96 (Rep.size TUnit) vN (([]:List TUnit).length) [],.row w.heap.size 96 (Rep.size TUnit) c0 M0.length R0,.cells p0 [vI (((a0.fh % (3:UInt8)).toNat:Nat):Int),vI (((a0.fc % (4:UInt8)).toNat:Nat):Int),vI (((a0.fe % (3:UInt8)).toNat:Nat):Int),c0] 58,.cells j0 [vI 0,vI 0,vI 0,vN] 58,.cells g0 [.int .u8 (a0.fh.toNat:Int),.int .u8 (a0.fc.toNat:Int),.int .u8 (a0.fe.toNat:Int),.int .u8 (a0.fu.toNat:Int),v0_4] 51]∧Cells M1 (bl [.row w.heap.size 3 (Rep.size Int) H0 C0.length B1,.row w.heap.size 3 (Rep.size Int) I0 B0.length C1,.row w.heap.size 3 (Rep.size Int) J0 A0.length D1,.row w.heap.size 96 (Rep.size TUnit) vN (([]:List TUnit).length) [],.row w.heap.size 96 (Rep.size TUnit) c0 M0.length R0,.cells p0 [vI (((a0.fh % (3:UInt8)).toNat:Nat):Int),vI (((a0.fc % (4:UInt8)).toNat:Nat):Int),vI (((a0.fe % (3:UInt8)).toNat:Nat):Int),c0] 58,.cells j0 [vI 0,vI 0,vI 0,vN] 58,.cells g0 [.int .u8 (a0.fh.toNat:Int),.int .u8 (a0.fc.toNat:Int),.int .u8 (a0.fe.toNat:Int),.int .u8 (a0.fu.toNat:Int),v0_4] 51] ++ L) B1 (C0:List Int)∧Cells M1 (bl [.row w.heap.size 3 (Rep.size Int) H0 C0.length B1,.row w.heap.size 3 (Rep.size Int) I0 B0.length C1,.row w.heap.size 3 (Rep.size Int) J0 A0.length D1,.row w.heap.size 96 (Rep.size TUnit) vN (([]:List TUnit).length) [],.row w.heap.size 96 (Rep.size TUnit) c0 M0.length R0,.cells p0 [vI (((a0.fh % (3:UInt8)).toNat:Nat):Int),vI (((a0.fc % (4:UInt8)).toNat:Nat):Int),vI (((a0.fe % (3:UInt8)).toNat:Nat):Int),c0] 58,.cells j0 [vI 0,vI 0,vI 0,vN] 58,.cells g0 [.int .u8 (a0.fh.toNat:Int),.int .u8 (a0.fc.toNat:Int),.int .u8 (a0.fe.toNat:Int),.int .u8 (a0.fu.toNat:Int),v0_4] 51] ++ L) C1 (B0:List Int)∧Cells M1 (bl [.row w.heap.size 3 (Rep.size Int) H0 C0.length B1,.row w.heap.size 3 (Rep.size Int) I0 B0.length C1,.row w.heap.size 3 (Rep.size Int) J0 A0.length D1,.row w.heap.size 96 (Rep.size TUnit) vN (([]:List TUnit).length) [],.row w.heap.size 96 (Rep.size TUnit) c0 M0.length R0,.cells p0 [vI (((a0.fh % (3:UInt8)).toNat:Nat):Int),vI (((a0.fc % (4:UInt8)).toNat:Nat):Int),vI (((a0.fe % (3:UInt8)).toNat:Nat):Int),c0] 58,.cells j0 [vI 0,vI 0,vI 0,vN] 58,.cells g0 [.int .u8 (a0.fh.toNat:Int),.int .u8 (a0.fc.toNat:Int),.int .u8 (a0.fe.toNat:Int),.int .u8 (a0.fu.toNat:Int),v0_4] 51] ++ L) D1 (A0:List Int)) 5 2047 ?_ ?_
 rintro ⟨H0,B1,I0,C1,J0,D1⟩ M1 ⟨I1,R4,q5,s5,t5⟩
 try dsimp only
 obtain ⟨B8,V8,D5⟩:=St.rowV (α:=Int) I1 (.tl (.tl .hd))
 obtain ⟨C8,W8,E5⟩:=St.rowV (α:=Int) I1 (.tl .hd)
 obtain ⟨D8,X8,F5⟩:=St.rowV (α:=Int) I1 .hd
 refine Ag 11 4095 b0 rfl A1 (fun _=>AW (vs:=[.string ⟨#[115,101,97]⟩,.bool true,J0,I0,H0]) (u:=.agg #[.string ⟨#[115,101,97]⟩,vI 0,J0,I0,H0,.bool true]) (e5 rfl rfl rfl rfl rfl) (fun w9=>by rw [D5,E5,F5]; try kernel_rfl)) rfl ?_
 have Y6:=Bv (α:=Int) I1 (.tl (.tl .hd)) t5 hL
 have U1:=St.delS I1 (.tl (.tl .hd))
 have E2:=St.delT I1 (.tl (.tl .hd))
 have U3:=Rep.at_ (α:=Int) (v:=J0) (xs:=A0) U1 L Y6
 have J5:=AG s5 E2
 have Z6:=Bv (α:=Int) U1 (.tl .hd) J5 hL
 have V1:=St.delS U1 (.tl .hd)
 have F2:=St.delT U1 (.tl .hd)
 have V3:=Rep.at_ (α:=Int) (v:=I0) (xs:=B0) V1 L Z6
 have K5:=AG q5 (Tt E2 F2)
 have b7:=Bv (α:=Int) V1 .hd K5 hL
 have d3:=St.delS V1 .hd
 have Y1:=St.delT V1 .hd
 have W3:=Rep.at_ (α:=Int) (v:=H0) (xs:=C0) d3 L b7
 have M5:=AA U3 (Tt F2 Y1)
 have P5:=AA V3 Y1
 obtain ⟨E8,Y8,E7,_⟩:=Rep.sl M5
 obtain ⟨F8,Z8,F7,_⟩:=Rep.sl P5
 obtain ⟨G8,b9,G7,_⟩:=Rep.sl W3
 refine RD.nu 12 8191 b0 rfl .plain rfl (AX (α:=TUnit) (xs:=([(⟨⟨#[115,101,97]⟩,(0:Int),A0,B0,C0,true⟩:TUnit)]:List TUnit)) (vs:=[.agg #[.string ⟨#[115,101,97]⟩,vI 0,J0,I0,H0,.bool true]]) (ds' :=[.string ⟨#[115,101,97]⟩,vI 0,J0,I0,H0,.bool true]) rfl d3 el56 rfl (e1 rfl) (by rw [E7,F7,G7]; try kernel_rfl) rfl) (fun G9 Q8 u2 G2=>?_)
 have F3:=Tt F2 (Tt Y1 G2)
 have Q5:=AA U3 F3
 have R5:=AA V3 (Tt Y1 G2)
 have U5:=AA W3 G2
 have u5:=AC (cs:=[.string ⟨#[115,101,97]⟩,vI 0,J0,I0,H0,.bool true]) (xs:=(([(⟨⟨#[115,101,97]⟩,(0:Int),A0,B0,C0,true⟩:TUnit)]:List TUnit):List TUnit)) u2 L (Aq (cs:=[.string ⟨#[115,101,97]⟩,vI 0,J0,I0,H0,.bool true]) (ds:=[]) (mk_TUnit ⟨#[115,101,97]⟩ (0:Int) A0 Q5 B0 R5 C0 U5 true) (AM _ _))
 obtain ⟨y8,K7,h⟩:=bi h
 have G3:=Tt R4 (Tt E2 F3)
 have V5:=AG C3 G3
 refine BC (i:=13) (rk b0) (RO.doesL (m' :=16383) (sk b0) rfl rfl .plain rfl (DoesL.app (α:=TUnit) (ys:=([(⟨⟨#[115,101,97]⟩,(0:Int),A0,B0,C0,true⟩:TUnit)]:List TUnit)) K7 u2 (fun _ _=>(.tl (.tl .hd))) el56 rfl rfl V5 (Src.row (α:=TUnit) u2 .hd u5)) (fun X2 H9 ⟨j4,v2,U4,v5⟩=>?_))
 refine BC (i:=14) (rk b0) (RO.val (m' :=32767) (sk b0) rfl .plain rfl (Bj 3 rfl) ?_)
 refine Bz 15 65535 b0 rfl rfl .plain (BA (j:=3) (old:=[vI (((a0.fh % (3:UInt8)).toNat:Nat):Int),vI (((a0.fc % (4:UInt8)).toNat:Nat):Int),vI (((a0.fe % (3:UInt8)).toNat:Nat):Int),c0]) (news:=[X2]) (new' :=[vI (((a0.fh % (3:UInt8)).toNat:Nat):Int),vI (((a0.fc % (4:UInt8)).toNat:Nat):Int),vI (((a0.fe % (3:UInt8)).toNat:Nat):Int),X2]) v2 (.tl (.tl (.tl .hd))) rfl rfl rfl (St.c1 (α:=TUnit) v2 (.tl (.tl .hd))) rfl rfl (o1 (St.o1 (α:=TUnit) v2 (.tl (.tl .hd)))) rfl) (fun I9 u4 s3=>?_)
 refine AK (dk b0)<|Au<|Am<|Ae rfl<|Ab (Bi (i:=y1) (j:=1) rfl rfl (by omega))<|Af rfl<|Aa ?_
 obtain ⟨v4,t3⟩:=AI u4 (.one (.tl .hd) (.one (.tl .hd) (.one (.tl .hd) (.one (.tl .hd) (.one (.tl .hd) .done)))))
 have W5:=AG v5 (Tt s3 t3)
 have Q6:=Tt G3 (Tt U4 (Tt s3 t3))
 exact q4 (y1 + 1,y8,X2,j4) _ _ ⟨rfl,rfl,rfl,rfl,trivial⟩ ⟨v4,(Tt Q4 Q6),W5⟩ h
 intro H1
 refine RD.each [4,7,10] (rk b0) ⟨?_,?_,?_,trivial⟩
 refine RO.new (m' :=895) (sk b0) rfl .plain rfl (Does.mk (α:=Int) t1 Z0 el52 rfl) (fun g2 d1 D0 X0=>?_)
 have p1:=AC (cs:=(List.replicate (((a0.fh % (3:UInt8)).toNat:Nat):Int).toNat [vI 0]).flatten) (xs:=A0) D0 L (Cells.mk t1 rfl)
 refine RD.each [7,10] (rk b0) ⟨?_,?_,trivial⟩
 refine RO.new (m' :=1023) (sk b0) rfl .plain rfl (Does.mk (α:=Int) u1 D0 el52 rfl) (fun j2 g1 E0 U0=>?_)
 have q1:=AC (cs:=(List.replicate (((a0.fc % (4:UInt8)).toNat:Nat):Int).toNat [vI 0]).flatten) (xs:=B0) E0 L (Cells.mk u1 rfl)
 refine RD.nu 10 2047 b0 rfl .plain rfl (Does.mk (α:=Int) v1 E0 el52 rfl) (fun k2 j1 F0 V0=>?_)
 have s1:=AC (cs:=(List.replicate (((a0.fe % (3:UInt8)).toNat:Nat):Int).toNat [vI 0]).flatten) (xs:=C0) F0 L (Cells.mk v1 rfl)
 have X5:=AG q1 V0
 have Y5:=AG p1 (Tt U0 V0)
 have R6:=Tt X0 (Tt U0 V0)
 exact H1 ((.slice (some ⟨j1,0,none⟩) (((a0.fe % (3:UInt8)).toNat:Nat):Int).toNat (((a0.fe % (3:UInt8)).toNat:Nat):Int).toNat),(List.replicate (((a0.fe % (3:UInt8)).toNat:Nat):Int).toNat [vI 0]).flatten,(.slice (some ⟨g1,0,none⟩) (((a0.fc % (4:UInt8)).toNat:Nat):Int).toNat (((a0.fc % (4:UInt8)).toNat:Nat):Int).toNat),(List.replicate (((a0.fc % (4:UInt8)).toNat:Nat):Int).toNat [vI 0]).flatten,(.slice (some ⟨d1,0,none⟩) (((a0.fh % (3:UInt8)).toNat:Nat):Int).toNat (((a0.fh % (3:UInt8)).toNat:Nat):Int).toNat),(List.replicate (((a0.fh % (3:UInt8)).toNat:Nat):Int).toNat [vI 0]).flatten) _ _ ⟨rfl,rfl,rfl,rfl,rfl,rfl,rfl,rfl,trivial⟩ ⟨F0,R6,s1,X5,Y5⟩
 refine RO.new (m' :=1919) (sk b0) rfl .plain rfl (Does.mk (α:=Int) v1 D0 el52 rfl) (fun k2 j1 F0 V0=>?_)
 have s1:=AC (cs:=(List.replicate (((a0.fe % (3:UInt8)).toNat:Nat):Int).toNat [vI 0]).flatten) (xs:=C0) F0 L (Cells.mk v1 rfl)
 refine RD.nu 7 2047 b0 rfl .plain rfl (Does.mk (α:=Int) u1 F0 el52 rfl) (fun j2 g1 E0 U0=>?_)
 have q1:=AC (cs:=(List.replicate (((a0.fc % (4:UInt8)).toNat:Nat):Int).toNat [vI 0]).flatten) (xs:=B0) E0 L (Cells.mk u1 rfl)
 obtain ⟨x4,H2⟩:=AI E0 (.one (.tl .hd) (.one .hd (.one .hd (.one .hd (.one .hd (.one .hd (.one .hd (.one .hd .done))))))))
 have Z5:=AG s1 (Tt U0 H2)
 have b6:=AG q1 H2
 have H3:=Tt V0 (Tt U0 H2)
 have c6:=AG p1 H3
 exact H1 ((.slice (some ⟨j1,0,none⟩) (((a0.fe % (3:UInt8)).toNat:Nat):Int).toNat (((a0.fe % (3:UInt8)).toNat:Nat):Int).toNat),(List.replicate (((a0.fe % (3:UInt8)).toNat:Nat):Int).toNat [vI 0]).flatten,(.slice (some ⟨g1,0,none⟩) (((a0.fc % (4:UInt8)).toNat:Nat):Int).toNat (((a0.fc % (4:UInt8)).toNat:Nat):Int).toNat),(List.replicate (((a0.fc % (4:UInt8)).toNat:Nat):Int).toNat [vI 0]).flatten,(.slice (some ⟨d1,0,none⟩) (((a0.fh % (3:UInt8)).toNat:Nat):Int).toNat (((a0.fh % (3:UInt8)).toNat:Nat):Int).toNat),(List.replicate (((a0.fh % (3:UInt8)).toNat:Nat):Int).toNat [vI 0]).flatten) _ _ ⟨rfl,rfl,rfl,rfl,rfl,rfl,rfl,rfl,trivial⟩ ⟨x4,(Tt X0 H3),Z5,b6,c6⟩
 refine RO.new (m' :=1007) (sk b0) rfl .plain rfl (Does.mk (α:=Int) u1 Z0 el52 rfl) (fun j2 g1 E0 U0=>?_)
 have q1:=AC (cs:=(List.replicate (((a0.fc % (4:UInt8)).toNat:Nat):Int).toNat [vI 0]).flatten) (xs:=B0) E0 L (Cells.mk u1 rfl)
 refine RD.each [4,10] (rk b0) ⟨?_,?_,trivial⟩
 refine RO.new (m' :=1023) (sk b0) rfl .plain rfl (Does.mk (α:=Int) t1 E0 el52 rfl) (fun g2 d1 D0 X0=>?_)
 have p1:=AC (cs:=(List.replicate (((a0.fh % (3:UInt8)).toNat:Nat):Int).toNat [vI 0]).flatten) (xs:=A0) D0 L (Cells.mk t1 rfl)
 refine RD.nu 10 2047 b0 rfl .plain rfl (Does.mk (α:=Int) v1 D0 el52 rfl) (fun k2 j1 F0 V0=>?_)
 have s1:=AC (cs:=(List.replicate (((a0.fe % (3:UInt8)).toNat:Nat):Int).toNat [vI 0]).flatten) (xs:=C0) F0 L (Cells.mk v1 rfl)
 obtain ⟨y4,I2⟩:=AI F0 (.one .hd (.one (.tl .hd) (.one .hd (.one .hd (.one .hd (.one .hd (.one .hd (.one .hd .done))))))))
 have d6:=AG s1 I2
 have I3:=Tt X0 (Tt V0 I2)
 have g6:=AG q1 I3
 have j6:=AG p1 (Tt V0 I2)
 exact H1 ((.slice (some ⟨j1,0,none⟩) (((a0.fe % (3:UInt8)).toNat:Nat):Int).toNat (((a0.fe % (3:UInt8)).toNat:Nat):Int).toNat),(List.replicate (((a0.fe % (3:UInt8)).toNat:Nat):Int).toNat [vI 0]).flatten,(.slice (some ⟨g1,0,none⟩) (((a0.fc % (4:UInt8)).toNat:Nat):Int).toNat (((a0.fc % (4:UInt8)).toNat:Nat):Int).toNat),(List.replicate (((a0.fc % (4:UInt8)).toNat:Nat):Int).toNat [vI 0]).flatten,(.slice (some ⟨d1,0,none⟩) (((a0.fh % (3:UInt8)).toNat:Nat):Int).toNat (((a0.fh % (3:UInt8)).toNat:Nat):Int).toNat),(List.replicate (((a0.fh % (3:UInt8)).toNat:Nat):Int).toNat [vI 0]).flatten) _ _ ⟨rfl,rfl,rfl,rfl,rfl,rfl,rfl,rfl,trivial⟩ ⟨y4,(Tt U0 I3),d6,g6,j6⟩
 refine RO.new (m' :=2031) (sk b0) rfl .plain rfl (Does.mk (α:=Int) v1 E0 el52 rfl) (fun k2 j1 F0 V0=>?_)
 have s1:=AC (cs:=(List.replicate (((a0.fe % (3:UInt8)).toNat:Nat):Int).toNat [vI 0]).flatten) (xs:=C0) F0 L (Cells.mk v1 rfl)
 refine RD.nu 4 2047 b0 rfl .plain rfl (Does.mk (α:=Int) t1 F0 el52 rfl) (fun g2 d1 D0 X0=>?_)
 have p1:=AC (cs:=(List.replicate (((a0.fh % (3:UInt8)).toNat:Nat):Int).toNat [vI 0]).flatten) (xs:=A0) D0 L (Cells.mk t1 rfl)
 obtain ⟨z4,J2⟩:=AI D0 (.one (.tl .hd) (.one (.tl .hd) (.one .hd (.one .hd (.one .hd (.one .hd (.one .hd (.one .hd .done))))))))
 have k6:=AG s1 (Tt X0 J2)
 have J3:=Tt V0 (Tt X0 J2)
 have p6:=AG q1 J3
 have q6:=AG p1 J2
 exact H1 ((.slice (some ⟨j1,0,none⟩) (((a0.fe % (3:UInt8)).toNat:Nat):Int).toNat (((a0.fe % (3:UInt8)).toNat:Nat):Int).toNat),(List.replicate (((a0.fe % (3:UInt8)).toNat:Nat):Int).toNat [vI 0]).flatten,(.slice (some ⟨g1,0,none⟩) (((a0.fc % (4:UInt8)).toNat:Nat):Int).toNat (((a0.fc % (4:UInt8)).toNat:Nat):Int).toNat),(List.replicate (((a0.fc % (4:UInt8)).toNat:Nat):Int).toNat [vI 0]).flatten,(.slice (some ⟨d1,0,none⟩) (((a0.fh % (3:UInt8)).toNat:Nat):Int).toNat (((a0.fh % (3:UInt8)).toNat:Nat):Int).toNat),(List.replicate (((a0.fh % (3:UInt8)).toNat:Nat):Int).toNat [vI 0]).flatten) _ _ ⟨rfl,rfl,rfl,rfl,rfl,rfl,rfl,rfl,trivial⟩ ⟨z4,(Tt U0 J3),k6,p6,q6⟩
 refine RO.new (m' :=1903) (sk b0) rfl .plain rfl (Does.mk (α:=Int) v1 Z0 el52 rfl) (fun k2 j1 F0 V0=>?_)
 have s1:=AC (cs:=(List.replicate (((a0.fe % (3:UInt8)).toNat:Nat):Int).toNat [vI 0]).flatten) (xs:=C0) F0 L (Cells.mk v1 rfl)
 refine RD.each [4,7] (rk b0) ⟨?_,?_,trivial⟩
 refine RO.new (m' :=1919) (sk b0) rfl .plain rfl (Does.mk (α:=Int) t1 F0 el52 rfl) (fun g2 d1 D0 X0=>?_)
 have p1:=AC (cs:=(List.replicate (((a0.fh % (3:UInt8)).toNat:Nat):Int).toNat [vI 0]).flatten) (xs:=A0) D0 L (Cells.mk t1 rfl)
 refine RD.nu 7 2047 b0 rfl .plain rfl (Does.mk (α:=Int) u1 D0 el52 rfl) (fun j2 g1 E0 U0=>?_)
 have q1:=AC (cs:=(List.replicate (((a0.fc % (4:UInt8)).toNat:Nat):Int).toNat [vI 0]).flatten) (xs:=B0) E0 L (Cells.mk u1 rfl)
 obtain ⟨A4,K2⟩:=AI E0 (.one (.tl (.tl .hd)) (.one .hd (.one .hd (.one .hd (.one .hd (.one .hd (.one .hd (.one .hd .done))))))))
 have K3:=Tt X0 (Tt U0 K2)
 have s6:=AG s1 K3
 have t6:=AG q1 K2
 have u6:=AG p1 (Tt U0 K2)
 exact H1 ((.slice (some ⟨j1,0,none⟩) (((a0.fe % (3:UInt8)).toNat:Nat):Int).toNat (((a0.fe % (3:UInt8)).toNat:Nat):Int).toNat),(List.replicate (((a0.fe % (3:UInt8)).toNat:Nat):Int).toNat [vI 0]).flatten,(.slice (some ⟨g1,0,none⟩) (((a0.fc % (4:UInt8)).toNat:Nat):Int).toNat (((a0.fc % (4:UInt8)).toNat:Nat):Int).toNat),(List.replicate (((a0.fc % (4:UInt8)).toNat:Nat):Int).toNat [vI 0]).flatten,(.slice (some ⟨d1,0,none⟩) (((a0.fh % (3:UInt8)).toNat:Nat):Int).toNat (((a0.fh % (3:UInt8)).toNat:Nat):Int).toNat),(List.replicate (((a0.fh % (3:UInt8)).toNat:Nat):Int).toNat [vI 0]).flatten) _ _ ⟨rfl,rfl,rfl,rfl,rfl,rfl,rfl,rfl,trivial⟩ ⟨A4,(Tt V0 K3),s6,t6,u6⟩
 refine RO.new (m' :=2031) (sk b0) rfl .plain rfl (Does.mk (α:=Int) u1 F0 el52 rfl) (fun j2 g1 E0 U0=>?_)
 have q1:=AC (cs:=(List.replicate (((a0.fc % (4:UInt8)).toNat:Nat):Int).toNat [vI 0]).flatten) (xs:=B0) E0 L (Cells.mk u1 rfl)
 refine RD.nu 4 2047 b0 rfl .plain rfl (Does.mk (α:=Int) t1 E0 el52 rfl) (fun g2 d1 D0 X0=>?_)
 have p1:=AC (cs:=(List.replicate (((a0.fh % (3:UInt8)).toNat:Nat):Int).toNat [vI 0]).flatten) (xs:=A0) D0 L (Cells.mk t1 rfl)
 obtain ⟨B4,M2⟩:=AI D0 (.one (.tl (.tl .hd)) (.one (.tl .hd) (.one .hd (.one .hd (.one .hd (.one .hd (.one .hd (.one .hd .done))))))))
 have M3:=Tt U0 (Tt X0 M2)
 have v6:=AG s1 M3
 have x6:=AG q1 (Tt X0 M2)
 have y6:=AG p1 M2
 exact H1 ((.slice (some ⟨j1,0,none⟩) (((a0.fe % (3:UInt8)).toNat:Nat):Int).toNat (((a0.fe % (3:UInt8)).toNat:Nat):Int).toNat),(List.replicate (((a0.fe % (3:UInt8)).toNat:Nat):Int).toNat [vI 0]).flatten,(.slice (some ⟨g1,0,none⟩) (((a0.fc % (4:UInt8)).toNat:Nat):Int).toNat (((a0.fc % (4:UInt8)).toNat:Nat):Int).toNat),(List.replicate (((a0.fc % (4:UInt8)).toNat:Nat):Int).toNat [vI 0]).flatten,(.slice (some ⟨d1,0,none⟩) (((a0.fh % (3:UInt8)).toNat:Nat):Int).toNat (((a0.fh % (3:UInt8)).toNat:Nat):Int).toNat),(List.replicate (((a0.fh % (3:UInt8)).toNat:Nat):Int).toNat [vI 0]).flatten) _ _ ⟨rfl,rfl,rfl,rfl,rfl,rfl,rfl,rfl,trivial⟩ ⟨B4,(Tt V0 M3),v6,x6,y6⟩
 refine AU rfl ?_
 have h:=G5 _ h
 try dsimp only at h
 refine Ac<|Ab (AJ rfl (Z0.memA (.tl (.tl .hd))))<|AZ [vI (((a0.fh % (3:UInt8)).toNat:Nat):Int),vI (((a0.fc % (4:UInt8)).toNat:Nat):Int),vI (((a0.fe % (3:UInt8)).toNat:Nat):Int),c0] Z0 (.tl (.tl (.tl .hd))) (o4 rfl rfl rfl (St.o1 (α:=TUnit) Z0 (.tl .hd))) (fun J9 x2 V4=>?_)
 refine Aa<|Ak rfl ?_
 have z6:=AG C3 V4
 have c7:=Bv (α:=TUnit) x2 (.tl .hd) z6 hL
 have W1:=St.delS x2 (.tl .hd)
 have j9:=St.delT x2 (.tl .hd)
 have d7:=Rep.at_ (α:=TUnit) (v:=c0) (xs:=M0) W1 L c7
 refine Ap hb0 Tryz.func18 rfl (.cons (.many (cs:=[vI (((a0.fh % (3:UInt8)).toNat:Nat):Int),vI (((a0.fc % (4:UInt8)).toNat:Nat):Int),vI (((a0.fe % (3:UInt8)).toNat:Nat):Int),c0]) (by kernel_rfl) rfl (W1.memA (.tl (.tl .hd)))) .nil) rfl ?_
 cases h
 exact ⟨W1.ag,fun w9 hw9=>⟨c0,rfl,W1.kd d7 hw9⟩⟩
def tb111_1:List (Nat × Nat × Nat):=[(0,32,4),(1,64,32),(0,128,8),(4,256,128),(10,512,320),(0,1024,8),(32,2048,1024),(0,4096,4),(128,8192,4096),(336,16384,10240),(528,32768,16896),(2047,16,32768)]
def share_Ratio_Cmp_p (n:Nat) (a0:TRatio) (a1:TRatio):Option Int:=
  (wide_Long_Times_p n a0.fx a1.ft).bind fun b0=>(wide_Long_Times_p n a1.fx a0.ft).bind fun c0=>(wide_Long_Cmp_p n b0 c0).bind fun d0=>some d0
theorem share_Ratio_Cmp_c (n:Nat) (L:List Nat) (w:World) (hL:∀ b ∈ L,b < w.heap.size) (a0:TRatio) {v0_1:Value} (h0_1:Rep.R w L [v0_1] a0.fx.fm) {v0_3:Value} (h0_3:Rep.R w L [v0_3] a0.ft.fm) (a1:TRatio) {v1_1:Value} (h1_1:Rep.R w L [v1_1] a1.fx.fm) {v1_3:Value} (h1_3:Rep.R w L [v1_3] a1.ft.fm)  {r:Int} (h:share_Ratio_Cmp_p n a0 a1 = some r) :
    Calls Tryz.prog 111 #[.agg #[.bool a0.fx.fj,v0_1,.bool a0.ft.fj,v0_3],.agg #[.bool a1.fx.fj,v1_1,.bool a1.ft.fj,v1_3]] w (Gives w fun _ u=>u = vI r):=by
 unfold share_Ratio_Cmp_p at h
 have hS0:=Az w
 refine AB Tryz.func111 rfl rfl rfl (fun _ cs0 hb0=>?_)
 refine Ac<|Al .plain rfl (Aw hS0 rfl rfl) (fun P0 D0 k0 F0=>?_)
 refine Al .plain rfl (Aw k0 rfl rfl) (fun Q0 E0 d0 G0=>?_)
 refine Af rfl<|Aa<|Aj<|dt 12 tb111_1 (fun b0 c0=>?_)
 refine Ag 0 1 b0 rfl c0 (fun _=>Bj 0 rfl) rfl<|AE 1 3 3600 b0 rfl c0 (Bo (cs:=[.bool a0.fx.fj,v0_1]) (by kernel_rfl) rfl (mem_part (d0.memA (.tl .hd)) 0 2)) rfl<|Ag 2 7 b0 rfl c0 (fun _=>Bj 2 rfl) rfl<|AE 3 15 3600 b0 rfl c0 (Bo (cs:=[.bool a1.ft.fj,v1_3]) (by kernel_rfl) rfl (mem_part (d0.memA .hd) 2 2)) rfl<|Ag 5 47 b0 rfl c0 (fun _=>Bj 0 rfl) rfl<|AE 6 111 3584 b0 rfl c0 (Bo (cs:=[.bool a1.fx.fj,v1_1]) (by kernel_rfl) rfl (mem_part (d0.memA .hd) 0 2)) rfl<|Ag 7 239 b0 rfl c0 (fun _=>Bj 2 rfl) rfl<|AE 8 495 3584 b0 rfl c0 (Bo (cs:=[.bool a0.ft.fj,v0_3]) (by kernel_rfl) rfl (mem_part (d0.memA (.tl .hd)) 2 2)) rfl ?_
 obtain ⟨A0,x0,h⟩:=bi h
 refine BB 4 511 b0 rfl .plain body102 rfl (e2 rfl rfl) (fun w9 hw9=>wide_Long_Times_c n _ w9 (d0.hL hL hw9) a0.fx (d0.km h0_1 hw9) a1.ft (d0.km h1_3 hw9) x0) rfl (fun R0 K0 q0 ⟨I0,hu_,u0⟩=>?_)
 subst hu_
 obtain ⟨g0,H0⟩:=d0.agr q0
 obtain ⟨B0,y0,h⟩:=bi h
 refine BB 9 1023 b0 rfl .plain body102 rfl (e2 rfl rfl) (fun w9 hw9=>wide_Long_Times_c n _ w9 (g0.hL hL hw9) a1.fx (g0.km h1_1 hw9) a0.ft (g0.km h0_3 hw9) y0) rfl (fun U0 M0 s0 ⟨J0,hu_,v0⟩=>?_)
 subst hu_
 obtain ⟨j0,p0⟩:=g0.agr s0
 obtain ⟨C0,z0,h⟩:=bi h
 have t0:=AA u0 p0
 refine RD.cq 10 2047 2048 (vI C0) b0 rfl c0 body149 rfl (e2 rfl rfl) (fun w9 hw9=>wide_Long_Cmp_c n _ w9 (j0.hL0 hL hw9) A0 (j0.kd t0 hw9) B0 (j0.kd v0 hw9) z0) rfl<|Ag 11 4095 b0 rfl c0 (fun _=>Ba rfl) rfl<|AK (dk b0)<|Ak rfl<|AR hb0 Tryz.func111 rfl rfl ?_
 cases h
 exact j0.gv
def tb110_4:List (Nat × Nat × Nat):=[(0,32768,4),(0,65536,8),(2,131072,65536),(0,262144,16),(12,524288,262144),(21,1048576,688128),(63,64,1048576),(127,128,0)]
theorem body110:bodyB Tryz.prog 110 = true:=by kernel_rfl
theorem body111:bodyB Tryz.prog 111 = true:=by kernel_rfl
def share_Cmp_p (n:Nat) (a0:TShare) (a1:TShare):Option (Int × Int):=
  (share_valid_p n ([a0,a1]:List TShare)).bind fun b0=>(if b0 = true then (share_Read_p n a0).bind fun c0=>(share_Read_p n a1).bind fun d0=>(share_Ratio_Cmp_p n c0 d0).bind fun g0=>some (g0,(0:Int)) else some ((0:Int),(20:Int)))
theorem share_Cmp_c (n:Nat) (L:List Nat) (w:World) (hL:∀ b ∈ L,b < w.heap.size) (a0:TShare) (a1:TShare)  {r:Int × Int} (h:share_Cmp_p n a0 a1 = some r) :
    Calls Tryz.prog 71 #[.agg ((cs_TShare a0)).toArray,.agg ((cs_TShare a1)).toArray] w (Gives w fun _ u=>u = .tuple #[vI r.1,vI r.2]):=by
 unfold share_Cmp_p at h
 have hS0:=Az w
 refine AB Tryz.func71 rfl rfl rfl (fun _ cs0 hb0=>?_)
 refine Ac<|Al .plain rfl (Aw hS0 rfl rfl) (fun x1 R0 v0 Z0=>?_)
 refine Al .plain rfl (Aw v0 rfl rfl) (fun y1 U0 j0 b1=>?_)
 refine Af rfl<|Af rfl<|Aa<|Ac<|Ab (AJ rfl (j0.memA (.tl .hd)))<|Ab (AJ rfl (j0.memA .hd))<|Br (fst:=[]) (cap:=[]) (vs:=[.agg ((cs_TShare a0)).toArray,.agg ((cs_TShare a1)).toArray,.func (.func 111) #[] #[]]) .plain body110 Tryz.func110 rfl rfl rfl rfl (e3 rfl rfl rfl) rfl (fun Y0 s0 k1=>?_)
 refine Ac<|Al .plain rfl (Aw j0 rfl rfl) (fun z1 V0 x0 c1=>?_)
 refine Al .plain rfl (Aw x0 rfl rfl) (fun A1 W0 k0 d1=>?_)
 refine Af rfl<|Af rfl<|Aa<|Aj<|Ac<|Ab (AJ rfl (k0.memA (.tl .hd)))<|Ab (AJ rfl (k0.memA .hd))<|Al .plain rfl (AX (α:=TShare) (xs:=([a0,a1]:List TShare)) (vs:=[.agg ((cs_TShare a0)).toArray,.agg ((cs_TShare a1)).toArray]) (ds' :=(cs_TShare a0 ++ cs_TShare a1)) rfl k0 el60 rfl (e2 rfl rfl) (by kernel_rfl) rfl) (fun B1 X0 c0 g1=>?_)
 have A0:=AC (cs:=(cs_TShare a0 ++ cs_TShare a1)) (xs:=(([a0,a1]:List TShare):List TShare)) c0 L (Aq (cs:=(cs_TShare a0)) (ds:=(cs_TShare a1)) (mk_TShare a0.fN a0.fD) (Aq (cs:=(cs_TShare a1)) (ds:=[]) (mk_TShare a1.fN a1.fD) (AM _ _)))
 obtain ⟨M0,H0,h⟩:=bi h
 refine Be (.bool M0) body99 rfl (e1 rfl) (fun w9 hw9=>share_valid_c n _ w9 (c0.hL0 hL hw9) ([a0,a1]:List TShare) (Ax (St.lend (α:=TShare) (L:=L) c0 .hd A0 hL) hw9) H0) rfl<|Ab (Bx rfl)<|Aa<|MX.ifnb rfl h (fun u0 h=>?_) (fun u0 h=>?_)
 refine Ao<|Aj<|dt 8 tb110_4 (fun b0 g0=>?_)
 refine Ag 0 1 b0 rfl g0 (fun _=>Ai rfl) rfl<|AE 1 3 244 b0 rfl g0 (AJ rfl (c0.memA (.tl (.tl .hd)))) rfl<|AE 3 11 240 b0 rfl g0 (AJ rfl (c0.memA (.tl .hd))) rfl ?_
 obtain ⟨P0,I0,h⟩:=bi h
 refine BB 2 15 b0 rfl .plain body100 rfl (e1 rfl) (fun w9 hw9=>share_Read_c n _ w9 (c0.hL hL hw9) a0 I0) rfl (fun C1 u1 y0 ⟨p1,q1,hu_,D0,E0⟩=>?_)
 subst hu_
 obtain ⟨p0,j1⟩:=c0.agr y0
 obtain ⟨Q0,J0,h⟩:=bi h
 refine BB 4 31 b0 rfl .plain body100 rfl (e1 rfl) (fun w9 hw9=>share_Read_c n _ w9 (p0.hL hL hw9) a1 J0) rfl (fun D1 v1 z0 ⟨s1,t1,hu_,F0,G0⟩=>?_)
 subst hu_
 obtain ⟨d0,q0⟩:=p0.agr z0
 obtain ⟨t0,K0,h⟩:=bi h
 have B0:=AA D0 q0
 have C0:=AA E0 q0
 refine RD.cq 5 63 192 (vI t0) b0 rfl g0 body111 rfl (e2 rfl rfl) (fun w9 hw9=>share_Ratio_Cmp_c n _ w9 (d0.hL0 hL hw9) P0 (d0.kd B0 hw9) (d0.kd C0 hw9) Q0 (d0.kd F0 hw9) (d0.kd G0 hw9) K0) rfl<|Ag 6 127 b0 rfl g0 (fun _=>Ba rfl) rfl<|Ag 7 255 b0 rfl g0 (fun _=>Ba rfl) rfl<|AK (dk b0)<|Ak rfl<|Ap (u:=.tuple #[vI t0,vI 0]) s0 Tryz.func110 rfl (.cons (.tmp rfl) (.cons (.tmp rfl) .nil)) rfl<|Ab (Ah rfl rfl)<|Ab (Ah rfl rfl)<|Af rfl<|Af rfl<|Aa<|Ak rfl<|Ap hb0 Tryz.func71 rfl (.cons (.tmp rfl) (.cons (.tmp rfl) .nil)) rfl ?_
 cases h
 exact d0.gv
 refine Ac<|Af rfl<|Aa<|Ac<|Ae rfl<|Af rfl<|Af rfl<|Aa<|Ak rfl<|Ap (u:=.tuple #[vI 0,vI 20]) s0 Tryz.func110 rfl (.cons (.tmp rfl) (.cons (.tmp rfl) .nil)) rfl<|Ab (Ah rfl rfl)<|Ab (Ah rfl rfl)<|Af rfl<|Af rfl<|Aa<|Ak rfl<|Ap hb0 Tryz.func71 rfl (.cons (.tmp rfl) (.cons (.tmp rfl) .nil)) rfl ?_
 cases h
 exact c0.gv
theorem body71:bodyB Tryz.prog 71 = true:=by kernel_rfl
def wardmotelaw27_atMost_p (n:Nat) (a0:TShare) (a1:TShare):Option Bool:=
  (share_Cmp_p n a0 a1).bind fun b0=>(if b0.2 = 0 then some (decide (b0.1 ≤ 0)) else some false)
theorem wardmotelaw27_atMost_c (n:Nat) (L:List Nat) (w:World) (hL:∀ b ∈ L,b < w.heap.size) (a0:TShare) (a1:TShare)  {r:Bool} (h:wardmotelaw27_atMost_p n a0 a1 = some r) :
    Calls Tryz.prog 26 #[.agg ((cs_TShare a0)).toArray,.agg ((cs_TShare a1)).toArray] w (Gives w fun _ u=>u = .bool r):=by
 unfold wardmotelaw27_atMost_p at h
 have hS0:=Az w
 refine AB Tryz.func26 rfl rfl rfl (fun _ cs0 hb0=>?_)
 refine Ac<|Al .plain rfl (Aw hS0 rfl rfl) (fun t0 k0 g0 q0=>?_)
 refine Al .plain rfl (Aw g0 rfl rfl) (fun u0 p0 b0 s0=>?_)
 refine Af rfl<|Aa<|Ac<|Ab (AJ rfl (b0.memA (.tl .hd)))<|Ab (AJ rfl (b0.memA .hd)) ?_
 obtain ⟨c0,j0,h⟩:=bi h
 refine Be (.tuple #[vI c0.1,vI c0.2]) body71 rfl (e2 rfl rfl) (fun w9 hw9=>share_Cmp_c n _ w9 (b0.hL0 hL hw9) a0 a1 j0) rfl<|Ae rfl<|Ab (Ah rfl rfl)<|Ab (Ah rfl rfl)<|Af rfl<|Af rfl<|Aa<|Ac<|Ae rfl<|Ab (FV.eql (i:=c0.2) (j:=0) rfl rfl)<|Ae rfl<|RG.ifd (s:=15) rfl h (fun d0 h=>?_) (fun d0 h=>?_)
 refine AN (Ai rfl)<|AN (FV.leq (i:=c0.1) (j:=0) rfl rfl)<|RG.pt rfl rfl<|Af rfl<|Aa<|Ak rfl<|AR hb0 Tryz.func26 rfl rfl ?_
 cases h
 exact b0.gv
 refine Av<|Av<|RG.pf rfl rfl<|Af rfl<|Aa<|Ak rfl<|AR hb0 Tryz.func26 rfl rfl ?_
 cases h
 exact b0.gv
def tb5_22:List (Nat × Nat × Nat):=[(0,1329227995784915872903807060280344576,524288),(0,2658455991569831745807614120560689152,262144),(2,5316911983139663491615228241121378304,2658455991569831745807614120560689152),(5,10633823966279326983230456482242756608,6646139978924579364519035301401722880),(8,21267647932558653966460912964485513216,10633823966279326983230456482242756608),(16,42535295865117307932921825928971026432,21267647932558653966460912964485521408),(16,85070591730234615865843651857942052864,21267647932558653966460912964485644288),(112,170141183460469231731687303715884105728,148873535527910577765226390751398592512),(144,340282366920938463463374607431768211456,191408831393027885698148216680369618944),(16,680564733841876926926749214863536422912,21267647932558653966460912964485515264),(16,1361129467683753853853498429727072845824,21267647932558653966460912964485644288),(1552,2722258935367507707706996859454145691648,2062961849458189434746708557555094781952),(2064,5444517870735015415413993718908291383296,2743526583300066361673457772418631204864),(4112,10889035741470030830827987437816582766592,5465785518667574069380454631872776896512),(8208,21778071482940061661655974875633165533184,10910303389402589484794448350781068279808),(16656,43556142965880123323311949751266331066368,22139621497793558779085810396029419257856),(32784,87112285931760246646623899502532662132736,43577410613812681977278410664230816579584),(65552,174224571863520493293247799005065324265472,87112285931760246646623899502532662132736),(131072,348449143727040986586495598010130648530944,174224571863520493293247799005065324267520),(131072,696898287454081973172991196020261297061888,174224571863520493293247799005065324396544),(917504,1393796574908163946345982392040522594123776,1219572003044643453052734593035457269858304),(1179648,2787593149816327892691964784081045188247552,1568021146771684439639230191045587918389248),(2228224,5575186299632655785383929568162090376495104,2961817721679848385985212583086110512513024),(4325376,11150372599265311570767859136324180752990208,5749410871496176278677177367167155700760576),(131072,22300745198530623141535718272648361505980416,174224571863520493293247799005065324298240),(131072,44601490397061246283071436545296723011960832,174224571863520493293247799005065324396544),(50462720,89202980794122492566142873090593446023921664,67076460167455389917900402616950149842206720),(67239936,178405961588244985132285746181186892047843328,89377205365986013059436120889598511348187136),(142737408,356811923176489970264571492362373784095686656,189730558759373817196346853116516138125099008),(268566528,713623846352979940529142984724747568191373312,356986147748353490757864740161378849419952128),(537001984,1427247692705959881058285969449495136382746624,713798070924843461022436232523752633515638784),(1342177280,2854495385411919762116571938898990272765493248,1427247692705959881058285969449495136382746624),(2147483648,5708990770823839524233143877797980545530986496,2854495385411919762116571938898990272765526016),(2147483648,11417981541647679048466287755595961091061972992,2854495385411919762116571938898990272765624320),(15032385536,22835963083295358096932575511191922182123945984,19981467697883438334816003572292931909358452736),(19327352832,45671926166590716193865151022383844364247891968,25690458468707277859049147450090912454889439232),(2147483648,91343852333181432387730302044767688728495783936,2854495385411919762116571938898990272765493248),(105226698752,182687704666362864775460604089535377456991567872,139870273885184068343712025006050523365509169152),(139586437120,365375409332725729550921208179070754913983135744,185542200051774784537577176028434367729757061120),(277025390592,730750818665451459101842416358141509827966271488,368229904718137649313037780117969745186748628992),(687194767360,1461501637330902918203684832716283019655932542976,730750818665451459101842416358141509827966271488),(1099511627776,2923003274661805836407369665432566039311865085952,1461501637330902918203684832716283019655932551168),(1099511627776,5846006549323611672814739330865132078623730171904,1461501637330902918203684832716283019655932674048),(7696581394432,11692013098647223345629478661730264157247460343808,10230511461316320427425793829013981137591527800832),(9895604649984,23384026197294446691258957323460528314494920687616,13153514735978126263833163494446547176903392886784),(18691697672192,46768052394588893382517914646921056628989841375232,24845527834625349609462642156176811334150853230592),(35184372088832,93536104789177786765035829293842113257979682750464,46768052394588893382517914646921056628989841408000),(35184372088832,187072209578355573530071658587684226515959365500928,46768052394588893382517914646921056628989841506304),(246290604621824,374144419156711147060143317175368453031918731001856,327376366762122253677625402528447396402928889626624),(316659348799488,748288838313422294120286634350736906063837462003712,420912471551300040442661231822289509660908572377088),(35184372088832,1496577676626844588240573268701473812127674924007424,46768052394588893382517914646921056628989841375232),(1724034232352768,2993155353253689176481146537402947624255349848014848,2291634567334855775743377817699131774820502227386368),(2288083697401856,5986310706507378352962293074805895248510699696029696,3041384907285608972781868136882584963903995621933056),(4504699138998272,11972621413014756705924586149611790497021399392059392,5987772208144709255880496759638611531530355628572672)]
theorem body10:bodyB Tryz.prog 10 = true:=by kernel_rfl
theorem body11:bodyB Tryz.prog 11 = true:=by kernel_rfl
theorem body17:bodyB Tryz.prog 17 = true:=by kernel_rfl
theorem body18:bodyB Tryz.prog 18 = true:=by kernel_rfl
theorem body26:bodyB Tryz.prog 26 = true:=by kernel_rfl
def wardmotelaw27_InterestParts_l1 (_n:Nat) (g0:List UInt64) (j0:UInt64 × Nat → Option ((Bool ⊕ Unit) ⊕ UInt64)):UInt64 × Nat → Option ((Bool ⊕ Unit) ⊕ UInt64)
  | (c0,b0)=>(if b0 < g0.length then (g0[b0]?).bind fun d0=>(if d0 = (0:UInt64) then some (.inl (.inl false)) else (if (c0 &&& d0) = (0:UInt64) then j0 (c0 ||| d0,b0 + 1) else some (.inl (.inl false)))) else some (.inr c0))
def wardmotelaw27_InterestParts_l2 (n:Nat) (k0:List TInterest) (y0:(List (List UInt64)) × Int) (z0:(List Bool) × Int) (A0:(List TShare) × Int) (g0:Nat → Option (Bool ⊕ Unit)):Nat → Option (Bool ⊕ Unit)
  | b0=>(if b0 < k0.length then (k0[b0]?).bind fun q0=>(y0.1[b0]?).bind fun c0=>thn (loopF (wardmotelaw27_InterestParts_l1 n c0) n ((0:UInt64),0)) (fun p0=>(if p0 = q0.fo then (z0.1[b0]?).bind fun j0=>(if (j0 == (decide (c0.length = 1))) = true then (wardmotelaw27_of_p n (1:Int) ((c0.length:Nat):Int)).bind fun s0=>(A0.1[b0]?).bind fun d0=>(wardmotelaw27_atMost_p n s0 d0).bind fun t0=>(if t0 = true then (wardmotelaw27_of_p n (1:Int) (1:Int)).bind fun u0=>(wardmotelaw27_atMost_p n d0 u0).bind fun v0=>(if v0 = true then (if j0 = true then (wardmotelaw27_of_p n (1:Int) (1:Int)).bind fun x0=>(if d0 = x0 then g0 (b0 + 1) else some (.inl false)) else g0 (b0 + 1)) else some (.inl false)) else some (.inl false)) else some (.inl false)) else some (.inl false))) else some (.inr ()))
def wardmotelaw27_InterestParts_p (n:Nat) (a0:TDraft48) (a1:TDraft50) (a2:TDraft):Option Bool:=
  (wardmotelaw27_works_p n).bind fun s0=>(if s0 = true then (wardmoteref21_Draft_Loose_p n a0).bind fun b0=>(wardmoteref22_Draft_Roll_p n a1 ((b0.1.length:Nat):Int)).bind fun g0=>(wardmoteref27_Draft_List_p n a2 ((b0.1.length:Nat):Int)).bind fun c0=>(interest_Parts_p n c0 g0 b0.1 b0.2).bind fun j0=>(interest_Kept_p n c0 g0 b0.1 b0.2).bind fun k0=>(interest_Largest_p n c0 g0 b0.1 b0.2).bind fun p0=>jn (fun q0=>(if q0 = true then some false else thn (loopF (wardmotelaw27_InterestParts_l2 n c0 j0 k0 p0) n 0) (fun _=>some true))) (fun d0=>(if j0.2 = 0 then (if k0.2 = 0 then (if p0.2 = 0 then (if j0.1.length = c0.length then (if k0.1.length = c0.length then d0 (!(decide (p0.1.length = c0.length))) else d0 true) else d0 true) else d0 true) else d0 true) else d0 true)) else some false)
theorem wardmotelaw27_InterestParts_c (n:Nat) (L:List Nat) (w:World) (hL:∀ b ∈ L,b < w.heap.size) (a0:TDraft48) {v0_1:Value} (h0_1:Rep.R w L [v0_1] a0.fF) {v0_2:Value} (h0_2:Rep.R w L [v0_2] a0.fMore) {v0_3:Value} (h0_3:Rep.R w L [v0_3] a0.fLabels) (a1:TDraft50) {v1_4:Value} (h1_4:Rep.R w L [v1_4] a1.fNums) (a2:TDraft) {v2_0:Value} (h2_0:Rep.R w L [v2_0] a2.fL) (hG0:Glob 0 tab0 w)  {r:Bool} (h:wardmotelaw27_InterestParts_p n a0 a1 a2 = some r) :
    Calls Tryz.prog 5 #[.agg #[.int .u8 (a0.fN.toNat:Int),v0_1,v0_2,v0_3,.int .u8 (a0.fK.toNat:Int)],.agg #[.int .u8 (a1.fh.toNat:Int),.int .u8 (a1.fc.toNat:Int),.int .u8 (a1.fe.toNat:Int),.int .u8 (a1.fu.toNat:Int),v1_4],.agg #[v2_0]] w (Gives w fun _ u=>u = .bool r):=by
 unfold wardmotelaw27_InterestParts_p at h
 have hS0:=Az w
 refine AB Tryz.func5 rfl rfl rfl (fun _ cs0 hb0=>?_)
 refine Ac<|Al .plain rfl (Aw hS0 rfl rfl) (fun H6 v2 Z2 c6=>?_)
 refine Al .plain rfl (Aw Z2 rfl rfl) (fun I6 x2 b3 d6=>?_)
 refine Al .plain rfl (Aw b3 rfl rfl) (fun J6 y2 s0 g6=>?_)
 refine Af rfl<|Aa<|Aj<|Ac ?_
 obtain ⟨A5,b5,h⟩:=bi h
 refine Be (.bool A5) body10 rfl evs_nil (fun w9 hw9=>wardmotelaw27_works_c n _ w9 (s0.hL0 hL hw9) (hG0.keep (s0.ag.trans hw9)) b5) rfl<|Ab (Bx rfl)<|Aa<|MX.ifnb rfl h (fun C2 h=>?_) (fun C2 h=>?_)
 refine Ao<|Ac<|Ab (AJ rfl (s0.memA (.tl (.tl .hd)))) ?_
 obtain ⟨p0,c5,h⟩:=bi h
 refine Bp (fst:=[]) (cap:=[]) .plain body17 rfl (e1 rfl) (fun w9 hw9=>wardmoteref21_Draft_Loose_c n _ w9 (s0.hL hL hw9) a0 (s0.km h0_1 hw9) (s0.km h0_2 hw9) (s0.km h0_3 hw9) c5) rfl (fun M6 C6 G3 ⟨z6,hu_,F0⟩=>?_)
 subst hu_
 obtain ⟨Q0,j6⟩:=s0.agr G3
 refine Ae rfl<|Ab (Ah rfl rfl)<|Ab (Ah rfl rfl)<|Af rfl<|Af rfl<|Aa<|Ac<|Ab (AJ rfl (Q0.memA (.tl .hd)))<|Ae rfl ?_
 have q6:p0.1.length ≤ 281474976710656:=AQ F0
 refine Ab (AV (xs:=p0.1) Tryz.underlying53 rfl F0) ?_
 obtain ⟨v0,g5,h⟩:=bi h
 refine Bp (fst:=[]) (cap:=[]) .plain body18 rfl (e2 rfl rfl) (fun w9 hw9=>wardmoteref22_Draft_Roll_c n _ w9 (Q0.hL hL hw9) a1 (Q0.km h1_4 hw9) ((p0.1.length:Nat):Int) g5) rfl (fun P6 D6 H3 ⟨q2,hu_,b1⟩=>?_)
 subst hu_
 obtain ⟨v3,k1⟩:=Q0.agr H3
 refine Al .plain rfl (AD [vI 0,vI 0,vI 0,vN] v3) (fun Q6 z2 x3 p1=>?_)
 have s4:=AA b1 p1
 refine AZ [vI v0.fh,vI v0.fc,vI v0.fe,q2] x3 .hd (o4 rfl rfl rfl (Bk s4)) (fun R6 R0 K1=>?_)
 refine Aa<|Ac<|Ab (AJ rfl (R0.memA (.tl .hd)))<|Ae rfl ?_
 have d2:=Tt k1 (Tt p1 K1)
 have t4:=AA F0 d2
 refine Ab (AV (xs:=p0.1) Tryz.underlying53 rfl t4) ?_
 obtain ⟨j0,s5,h⟩:=bi h
 refine Bp (fst:=[]) (cap:=[]) .plain body11 rfl (e2 rfl rfl) (fun w9 hw9=>wardmoteref27_Draft_List_c n _ w9 (R0.hL hL hw9) a2 (R0.km h2_0 hw9) ((p0.1.length:Nat):Int) s5) rfl (fun U6 D1 I3 ⟨B6,hu_,G0⟩=>?_)
 subst hu_
 obtain ⟨U0,M1⟩:=R0.agr I3
 refine Af rfl<|Aa<|Ac<|Ae rfl<|Ab (AJ rfl (U0.memA .hd))<|Ae rfl<|Ae rfl ?_
 obtain ⟨g1,t5,h⟩:=bi h
 have Z0:=Tt p1 (Tt K1 M1)
 have u4:=AA b1 Z0
 have v4:=AA F0 (Tt k1 Z0)
 refine Bp (fst:=[]) (cap:=[]) .plain body24 rfl (e4 rfl rfl rfl rfl) (fun w9 hw9=>interest_Parts_c n _ w9 (U0.hL hL hw9) j0 (Ax G0 hw9) v0 (Ax u4 hw9) p0.1 (Ax v4 hw9) p0.2 (hG0.keep (U0.ag.trans hw9)) t5) rfl (fun V6 E6 J3 ⟨A1,hu_,y1⟩=>?_)
 subst hu_
 obtain ⟨V0,y0⟩:=U0.agr J3
 refine Ae rfl<|Ab (Ah rfl rfl)<|Ab (Ah rfl rfl)<|Af rfl<|Af rfl<|Aa<|Ac<|Ae rfl<|Ab (AJ rfl (V0.memA .hd))<|Ae rfl<|Ae rfl ?_
 obtain ⟨j1,u5,h⟩:=bi h
 have x4:=AA G0 y0
 have y4:=AA b1 (Tt Z0 y0)
 have K4:=Tt d2 (Tt M1 y0)
 have z4:=AA F0 K4
 refine Bp (fst:=[]) (cap:=[]) .plain body25 rfl (e4 rfl rfl rfl rfl) (fun w9 hw9=>interest_Kept_c n _ w9 (V0.hL hL hw9) j0 (Ax x4 hw9) v0 (Ax y4 hw9) p0.1 (Ax z4 hw9) p0.2 (hG0.keep (V0.ag.trans hw9)) u5) rfl (fun W6 F6 K3 ⟨B1,hu_,k2⟩=>?_)
 subst hu_
 obtain ⟨W0,z0⟩:=V0.agr K3
 refine Ae rfl<|Ab (Ah rfl rfl)<|Ab (Ah rfl rfl)<|Af rfl<|Af rfl<|Aa<|Ac<|Ae rfl<|Ab (AJ rfl (W0.memA .hd))<|Ae rfl<|Ae rfl ?_
 obtain ⟨M0,v5,h⟩:=bi h
 have A4:=AA G0 (Tt y0 z0)
 have g2:=Tt Z0 (Tt y0 z0)
 have B4:=AA b1 g2
 have C4:=AA F0 (Tt k1 g2)
 refine Bp (fst:=[]) (cap:=[]) .plain body19 rfl (e4 rfl rfl rfl rfl) (fun w9 hw9=>interest_Largest_c n _ w9 (W0.hL hL hw9) j0 (Ax A4 hw9) v0 (Ax B4 hw9) p0.1 (Ax C4 hw9) p0.2 (hG0.keep (W0.ag.trans hw9)) v5) rfl (fun z5 G6 M3 ⟨C1,hu_,z1⟩=>?_)
 subst hu_
 obtain ⟨B0,E0⟩:=W0.agr M3
 refine Ae rfl<|Ab (Ah rfl rfl)<|Ab (Ah rfl rfl)<|Af rfl<|Af rfl<|Aa<|Aj<|Aj<|MX.join (α:=Bool) (fun K0=>[(10,D1),(11,A1),(13,B1),(15,C1),(91,.bool K0)]) (fun K0 c1=>St w c1 []∧Tr z5 [.cells z2 [vI v0.fh,vI v0.fc,vI v0.fe,q2] 58,.cells y2 [v2_0] 24,.cells x2 [.int .u8 (a1.fh.toNat:Int),.int .u8 (a1.fc.toNat:Int),.int .u8 (a1.fe.toNat:Int),.int .u8 (a1.fu.toNat:Int),v1_4] 51,.cells v2 [.int .u8 (a0.fN.toNat:Int),v0_1,v0_2,v0_3,.int .u8 (a0.fK.toNat:Int)] 49] c1 []) (fun K0=>K0) h ?_ ?_
 rintro K0 c1 ⟨I1,X0⟩ h
 try dsimp only at h
 refine MX.ifb rfl h (fun A2 h=>?_) (fun A2 h=>?_)
 refine Ac<|Af rfl<|Aa<|Ak rfl<|AR hb0 Tryz.func5 rfl rfl ?_
 cases h
 exact I1.gv
 refine Ao<|Aj<|Ac<|Ae rfl ?_
 have b2:=Tt y0 (Tt z0 (Tt E0 X0))
 have V1:=AA G0 b2
 have k6:j0.length ≤ 281474976710656:=AQ V1
 refine Ab (AV (xs:=j0) Tryz.underlying30 rfl V1)<|Ae rfl<|Aa<|Ar ?_
 obtain ⟨x6,D4,x0⟩:=thn_in h
 refine Bc (α:=Nat) (fun d0=>[(11,A1),(13,B1),(15,C1),(92,D1),(93,vI ((j0.length:Nat):Int)),(94,vI ((d0:Nat):Int))]) (fun d0 E1=>St w E1 []∧Tr c1 [] E1 []) (fun d0=>d0) 0 D4 ⟨rfl,rfl,rfl,rfl,rfl,rfl,trivial⟩ ⟨I1,AS _ _⟩ ?_
 rintro K5 d0 E1 H1 ⟨J1,C0⟩ h
 unfold wardmotelaw27_InterestParts_l2 at h
 try dsimp only at h
 refine Ac<|Ab (Bf (i:=d0) (j:=j0.length) rfl rfl)<|Aa<|Aj<|AP rfl h (fun B2 h=>?_) (fun B2 h=>?_)
 refine Ao<|Aj<|Ar<|Ac<|Ae rfl ?_
 obtain ⟨k0,W4,h⟩:=bi h
 have b4:=AA G0 (Tt b2 C0)
 obtain ⟨D5,P5,P3,W3,X5,M4,Z3⟩:=Bh b4 W4
 obtain rfl:=op_TInterest M4
 refine Ab (Bm 3 d0 rfl P3 rfl rfl W3)<|Ab (AJ rfl Z3)<|Al .plain rfl (AD [.string ⟨#[]⟩,vI 0,vW 0] J1) (fun K6 P0 c3 I0=>?_)
 refine Af rfl<|AZ [.string k0.fp,vI k0.fy,vU k0.fo] c3 .hd (onesB rfl) (fun y5 d3 J0=>?_)
 refine Aa<|Ac<|Af rfl<|Aa<|Aj<|Ac<|Ae rfl<|Ae rfl ?_
 obtain ⟨u0,p2,h⟩:=bi h
 have F4:=Tt z0 (Tt E0 (Tt X0 (Tt C0 (Tt I0 J0))))
 have d4:=AA y1 F4
 obtain ⟨E5,Q5,Q3,X3,Y5,P4,c4⟩:=Bh d4 p2
 obtain ⟨x5,rfl,x1⟩:=lst_one P4
 refine Ab (Bm 1 d0 rfl Q3 rfl rfl X3)<|AY rfl (c4 0 _ rfl) ?_
 have p6:u0.length ≤ 281474976710656:=AQ x1
 refine Ab (AV (xs:=u0) Tryz.underlying75 rfl x1)<|Ae rfl<|Aa<|Ar ?_
 obtain ⟨y6,E4,s1⟩:=thn_in h
 refine Bc (α:=UInt64 × Nat) (fun ⟨q0,t0⟩=>[(11,A1),(13,B1),(15,C1),(92,D1),(93,vI ((j0.length:Nat):Int)),(94,vI ((d0:Nat):Int)),(18,vP P0),(17,vI ((d0:Nat):Int)),(19,vU q0),(102,x5),(103,vI ((u0.length:Nat):Int)),(104,vI ((t0:Nat):Int))]) (fun ⟨q0,t0⟩ F1=>St w F1 [.cells P0 [.string k0.fp,vI k0.fy,vU k0.fo] 65]∧Tr y5 [.cells P0 [.string k0.fp,vI k0.fy,vU k0.fo] 65] F1 [.cells P0 [.string k0.fp,vI k0.fy,vU k0.fo] 65]) (fun ⟨q0,t0⟩=>(q0,t0)) ((0:UInt64),0) E4 ⟨rfl,rfl,rfl,rfl,rfl,rfl,rfl,rfl,rfl,rfl,rfl,rfl,trivial⟩ ⟨d3,AS _ _⟩ ?_
 rintro M5 ⟨q0,t0⟩ F1 Y2 ⟨g0,D0⟩ h
 unfold wardmotelaw27_InterestParts_l1 at h
 try dsimp only at h
 refine Ac<|Ab (Bf (i:=t0) (j:=u0.length) rfl rfl)<|Aa<|Aj<|AP rfl h (fun D2 h=>?_) (fun D2 h=>?_)
 refine Ao<|Aj<|Ar<|Ac ?_
 obtain ⟨H0,X4,h⟩:=bi h
 have j4:=AA x1 D0
 obtain ⟨F5,R5,R3,Y3,W2,Q4,g4⟩:=Bh j4 X4
 have U3:W2 = [vU H0]:=Q4; subst U3
 refine Ab (Bm 1 t0 rfl R3 rfl rfl Y3)<|AY rfl (g4 0 _ rfl)<|Af rfl<|Aa<|Aj<|Ac<|Ae rfl<|Ab (FV.eqlU (a:=H0) (b:=(0:UInt64)) rfl rfl)<|Ae rfl<|RG.ifd (s:=110) rfl h (fun E2 h=>?_) (fun E2 h=>?_)
 refine Av<|Av<|Av<|Av<|RG.pt rfl rfl<|Aa<|Bd rfl<|Ac<|Af rfl<|Aa ?_
 have h:=thn_inl h s1
 have h:=thn_inl h x0
 refine Ak rfl<|AR hb0 Tryz.func5 rfl rfl ?_
 cases h
 exact g0.gv
 refine AN (Ai rfl)<|AN (Ai rfl)<|AN (FV.andU (a:=q0) (b:=H0) rfl rfl)<|AN (FV.neqU (a:=q0 &&& H0) (b:=(0:UInt64)) rfl rfl)<|RG.pf rfl rfl<|Aa<|MX.ifn rfl h (fun F2 h=>?_) (fun F2 h=>?_)
 refine Ao<|Am<|Ae rfl<|Ae rfl<|Ab (FV.orU (a:=q0) (b:=H0) rfl rfl)<|Af rfl<|Aa<|Au<|Am<|Ab (Bi (i:=t0) (j:=1) rfl rfl (by omega))<|Ae rfl<|Aa ?_
 exact Y2 (q0 ||| H0,t0 + 1) _ _ ⟨rfl,rfl,rfl,rfl,rfl,rfl,rfl,rfl,rfl,rfl,rfl,rfl,trivial⟩ ⟨g0,D0⟩ h
 refine Ac<|Af rfl<|Aa ?_
 have h:=thn_inl h s1
 have h:=thn_inl h x0
 refine Ak rfl<|AR hb0 Tryz.func5 rfl rfl ?_
 cases h
 exact g0.gv
 refine AU rfl ?_
 have h:=thn_inr h s1
 try dsimp only at h
 refine Aj<|dt 54 tb5_22 (fun b0 c0=>?_)
 refine Ag 0 1 b0 rfl c0 (fun _=>Ai rfl) rfl<|Ag 1 3 b0 rfl c0 (fun _=>Bj 2 rfl) rfl<|AE 2 7 18014398509481976 b0 rfl c0 (AF rfl ((g0.memA .hd) 2 _ rfl)) rfl<|Ag 3 15 b0 rfl c0 (fun _=>FV.neqU (a:=q0) (b:=k0.fo) rfl rfl) rfl<|Ag 4 31 b0 rfl c0 (fun _=>Ai rfl) rfl<|RD.ifn (s:=124) rfl h (fun G2 h=>?_) (fun G2 h=>?_)
 refine Bw 5 63 b0 rfl c0 (.yes rfl rfl) (fun _=>Ai rfl) rfl<|Bw 6 127 b0 rfl c0 (.yes rfl rfl) (fun _=>Ai rfl) rfl ?_
 obtain ⟨s2,Y4,h⟩:=bi h
 have c2:=Tt E0 (Tt X0 (Tt C0 (Tt I0 (Tt J0 D0))))
 have k4:=AA k2 c2
 obtain ⟨G5,U5,P1,R1,X2,R4,W1⟩:=Bh k4 Y4
 have V3:X2 = [.bool s2]:=R4; subst V3
 refine Bw 7 255 b0 rfl c0 (.yes rfl rfl) (fun _=>Bm 1 d0 rfl P1 rfl rfl R1) rfl<|RD.val (i:=8) (m' :=511) (W:=18014398509449216) (tk b0) rfl c0 (.yes rfl rfl) (AF rfl (W1 0 _ rfl)) rfl<|Bw 9 1023 b0 rfl c0 (.yes rfl rfl) (fun _=>Ai rfl) rfl<|Bw 10 2047 b0 rfl c0 (.yes rfl rfl) (fun _=>Ai rfl) rfl ?_
 have p4:=AA y1 (Tt z0 c2)
 obtain ⟨H5,V5,Q1,U1,Z5,U4,X1⟩:=Bh p4 p2
 obtain ⟨A6,rfl,j2⟩:=lst_one U4
 refine Bw 11 4095 b0 rfl c0 (.yes rfl rfl) (fun _=>Bm 1 d0 rfl Q1 rfl rfl U1) rfl<|RD.val (i:=12) (m' :=8191) (W:=18014398509473792) (tk b0) rfl c0 (.yes rfl rfl) (AF rfl (X1 0 _ rfl)) rfl<|RD.val (i:=13) (m' :=16383) (W:=18014398509465600) (tk b0) rfl c0 (.yes rfl rfl) (AV (xs:=u0) Tryz.underlying75 rfl j2) rfl<|Bw 14 32767 b0 rfl c0 (.yes rfl rfl) (fun _=>FV.eqlN (i:=u0.length) (j:=1) rfl rfl) rfl<|Bw 15 65535 b0 rfl c0 (.yes rfl rfl) (fun _=>FV.neqB (a:=s2) (b:=(decide (u0.length = 1))) Tryz.underlying4 rfl rfl) rfl<|Ag 16 131071 b0 rfl c0 (fun _=>AO rfl rfl) rfl<|Ag 17 262143 b0 rfl c0 (fun _=>Ai rfl) rfl<|RD.ifnb (s:=137) rfl h (fun H2 h=>?_) (fun H2 h=>?_)
 refine Bw 18 524287 b0 rfl c0 (.yes rfl rfl) (fun _=>Ai rfl) rfl<|Bw 19 1048575 b0 rfl c0 (.yes rfl rfl) (fun _=>Ai rfl) rfl<|Bw 20 2097151 b0 rfl c0 (.yes rfl rfl) (fun _=>Bm 1 d0 rfl Q1 rfl rfl U1) rfl<|RD.val (i:=21) (m' :=4194303) (W:=18014398253629440) (tk b0) rfl c0 (.yes rfl rfl) (AF rfl (X1 0 _ rfl)) rfl<|RD.val (i:=22) (m' :=8388607) (W:=18014398249435136) (tk b0) rfl c0 (.yes rfl rfl) (AV (xs:=u0) Tryz.underlying75 rfl j2) rfl ?_
 obtain ⟨t2,d5,h⟩:=bi h
 refine RD.callq (i:=23) (m' :=16777215) (W:=18014398241046528) (tk b0) rfl c0 (v:=.agg ((cs_TShare t2)).toArray) (fst:=[]) (cap:=[]) (.yes rfl rfl) body20 rfl (e2 rfl rfl) (fun w9 hw9=>wardmotelaw27_of_c n _ w9 (g0.hL0 hL hw9) (1:Int) ((u0.length:Nat):Int) d5) rfl<|Bw 24 33554431 b0 rfl c0 (.yes rfl rfl) (fun _=>Ai rfl) rfl<|Bw 25 67108863 b0 rfl c0 (.yes rfl rfl) (fun _=>Ai rfl) rfl ?_
 obtain ⟨d1,Z4,h⟩:=bi h
 have G4:=Tt X0 (Tt C0 (Tt I0 (Tt J0 D0)))
 have q4:=AA z1 G4
 obtain ⟨I5,W5,q1,u1,b6,V4,v1⟩:=Bh q4 Z4
 obtain rfl:=op_TShare V4
 refine Bw 26 134217727 b0 rfl c0 (.yes rfl rfl) (fun _=>Bm 16 d0 rfl q1 rfl rfl u1) rfl<|RD.val (i:=27) (m' :=268435455) (W:=18014398241046528) (tk b0) rfl c0 (.yes rfl rfl) (AJ rfl v1) rfl ?_
 obtain ⟨B5,j5,h⟩:=bi h
 refine RD.callq (i:=28) (m' :=536870911) (W:=18014397972611072) (tk b0) rfl c0 (v:=.bool B5) (fst:=[]) (cap:=[]) (.yes rfl rfl) body26 rfl (e2 rfl rfl) (fun w9 hw9=>wardmotelaw27_atMost_c n _ w9 (g0.hL0 hL hw9) t2 d1 j5) rfl<|Bw 29 1073741823 b0 rfl c0 (.yes rfl rfl) (fun _=>Bx rfl) rfl<|Ag 30 2147483647 b0 rfl c0 (fun _=>AO rfl rfl) rfl<|Ag 31 4294967295 b0 rfl c0 (fun _=>Ai rfl) rfl<|RD.ifnb (s:=151) rfl h (fun I2 h=>?_) (fun I2 h=>?_)
 refine Bw 32 8589934591 b0 rfl c0 (.yes rfl rfl) (fun _=>Ai rfl) rfl<|Bw 33 17179869183 b0 rfl c0 (.yes rfl rfl) (fun _=>Ai rfl) rfl<|Bw 34 34359738367 b0 rfl c0 (.yes rfl rfl) (fun _=>Bm 16 d0 rfl q1 rfl rfl u1) rfl<|RD.val (i:=35) (m' :=68719476735) (W:=18014261070528512) (tk b0) rfl c0 (.yes rfl rfl) (AJ rfl v1) rfl ?_
 obtain ⟨u2,k5,h⟩:=bi h
 refine RD.callq (i:=36) (m' :=137438953471) (W:=18014261070528512) (tk b0) rfl c0 (v:=.agg ((cs_TShare u2)).toArray) (fst:=[]) (cap:=[]) (.yes rfl rfl) body20 rfl (e2 rfl rfl) (fun w9 hw9=>wardmotelaw27_of_c n _ w9 (g0.hL0 hL hw9) (1:Int) (1:Int) k5) rfl ?_
 obtain ⟨C5,p5,h⟩:=bi h
 refine RD.callq (i:=37) (m' :=274877906943) (W:=18014123631575040) (tk b0) rfl c0 (v:=.bool C5) (fst:=[]) (cap:=[]) (.yes rfl rfl) body26 rfl (e2 rfl rfl) (fun w9 hw9=>wardmotelaw27_atMost_c n _ w9 (g0.hL0 hL hw9) d1 u2 p5) rfl<|Bw 38 549755813887 b0 rfl c0 (.yes rfl rfl) (fun _=>Bx rfl) rfl<|Ag 39 1099511627775 b0 rfl c0 (fun _=>AO rfl rfl) rfl<|Ag 40 2199023255551 b0 rfl c0 (fun _=>Ai rfl) rfl<|RD.ifnb (s:=160) rfl h (fun J2 h=>?_) (fun J2 h=>?_)
 refine Bw 41 4398046511103 b0 rfl c0 (.yes rfl rfl) (fun _=>Ai rfl) rfl<|Bw 42 8796093022207 b0 rfl c0 (.yes rfl rfl) (fun _=>Ai rfl) rfl<|Bw 43 17592186044415 b0 rfl c0 (.yes rfl rfl) (fun _=>Bm 1 d0 rfl P1 rfl rfl R1) rfl<|RD.val (i:=44) (m' :=35184372088831) (W:=17979214137393152) (tk b0) rfl c0 (.yes rfl rfl) (AF rfl (W1 0 _ rfl)) rfl<|Bw 45 70368744177663 b0 rfl c0 (.yes rfl rfl) (fun _=>Ai rfl) rfl<|RD.ifb (s:=165) rfl h (fun K2 h=>?_) (fun K2 h=>?_)
 refine Bw 46 140737488355327 b0 rfl c0 (.yes rfl rfl) (fun _=>Ai rfl) rfl<|Bw 47 281474976710655 b0 rfl c0 (.yes rfl rfl) (fun _=>Ai rfl) rfl<|Bw 48 562949953421311 b0 rfl c0 (.yes rfl rfl) (fun _=>Bm 16 d0 rfl q1 rfl rfl u1) rfl<|RD.val (i:=49) (m' :=1125899906842623) (W:=15762598695796736) (tk b0) rfl c0 (.yes rfl rfl) (AJ rfl v1) rfl ?_
 obtain ⟨G1,q5,h⟩:=bi h
 refine RD.callq (i:=50) (m' :=2251799813685247) (W:=15762598695796736) (tk b0) rfl c0 (v:=.agg ((cs_TShare G1)).toArray) (fst:=[]) (cap:=[]) (.yes rfl rfl) body20 rfl (e2 rfl rfl) (fun w9 hw9=>wardmotelaw27_of_c n _ w9 (g0.hL0 hL hw9) (1:Int) (1:Int) q5) rfl<|Bw 51 4503599627370495 b0 rfl c0 (.yes rfl rfl) (fun _=>FV.neqV (xs:=((cs_TShare d1)).toArray) (ys:=((cs_TShare G1)).toArray) rfl rfl (by kernel_rfl) (eqlD_42 d1 G1)) rfl<|Bw 52 9007199254740991 b0 rfl c0 (.yes rfl rfl) (fun _=>Bu rfl rfl) rfl<|Ag 53 18014398509481983 b0 rfl c0 (fun _=>AO rfl rfl) rfl<|AK (dk b0)<|MX.ifn rfl h (fun M2 h=>?_) (fun M2 h=>?_)
 refine Ao<|Au<|Am<|Ab (Bi (i:=d0) (j:=1) rfl rfl (by omega))<|Ae rfl<|Aa ?_
 obtain ⟨g3,y3⟩:=AI g0 .done
 have H4:=Tt I0 (Tt J0 (Tt D0 y3))
 exact H1 (d0 + 1) _ _ ⟨rfl,rfl,rfl,rfl,rfl,rfl,trivial⟩ ⟨g3,(Tt C0 H4)⟩ h
 refine Ac<|Af rfl<|Aa ?_
 have h:=thn_inl h x0
 refine Ak rfl<|AR hb0 Tryz.func5 rfl rfl ?_
 cases h
 exact g0.gv
 refine Bb 4503599627370495 2 [(46,166),(47,167),(48,168),(49,169),(50,170),(51,171)] (F:=[(165,false)]) (U:=[]) b0 c0 (.cons rfl .nil) .nil ?_
 dsimp only [offS,List.map]
 refine Bw 52 9007199254740991 b0 rfl c0 (.yes rfl rfl) (fun _=>AO rfl rfl) rfl<|Ag 53 18014398509481983 b0 rfl c0 (fun _=>AO rfl rfl) rfl<|AK (dk b0)<|Bn rfl<|Ao<|Au<|Am<|Ab (Bi (i:=d0) (j:=1) rfl rfl (by omega))<|Ae rfl<|Aa ?_
 obtain ⟨j3,z3⟩:=AI g0 .done
 have I4:=Tt I0 (Tt J0 (Tt D0 z3))
 exact H1 (d0 + 1) _ _ ⟨rfl,rfl,rfl,rfl,rfl,rfl,trivial⟩ ⟨j3,(Tt C0 I4)⟩ h
 refine Bb 9007199254740991 1 [(41,161),(42,162),(43,163),(44,164),(45,165),(46,166),(47,167),(48,168),(49,169),(50,170),(51,171),(52,172)] (F:=[(160,true)]) (U:=[]) b0 c0 (.cons rfl .nil) .nil ?_
 dsimp only [offS,List.map]
 refine Ag 53 18014398509481983 b0 rfl c0 (fun _=>Bu rfl rfl) rfl<|AK (dk b0)<|Bd rfl<|Ac<|Af rfl<|Aa ?_
 have h:=thn_inl h x0
 refine Ak rfl<|AR hb0 Tryz.func5 rfl rfl ?_
 cases h
 exact g0.gv
 refine Bb 549755813887 15 [(32,152),(33,153),(34,154),(35,155),(36,156),(37,157),(38,158)] (F:=[(151,true)]) (U:=[]) b0 c0 (.cons rfl .nil) .nil ?_
 dsimp only [offS,List.map]
 refine Ag 39 1099511627775 b0 rfl c0 (fun _=>Bu rfl rfl) rfl<|Ag 40 2199023255551 b0 rfl c0 (fun _=>Ai rfl) rfl<|Bb 9007199254740991 1 [(41,161),(42,162),(43,163),(44,164),(45,165),(46,166),(47,167),(48,168),(49,169),(50,170),(51,171),(52,172)] (F:=[(160,true)]) (U:=[]) b0 c0 (.cons rfl .nil) .nil ?_
 dsimp only [offS,List.map]
 refine Ag 53 18014398509481983 b0 rfl c0 (fun _=>Bu rfl rfl) rfl<|AK (dk b0)<|Bd rfl<|Ac<|Af rfl<|Aa ?_
 have h:=thn_inl h x0
 refine Ak rfl<|AR hb0 Tryz.func5 rfl rfl ?_
 cases h
 exact g0.gv
 refine Bb 1073741823 24 [(18,138),(19,139),(20,140),(21,141),(22,142),(23,143),(24,144),(25,145),(26,146),(27,147),(28,148),(29,149)] (F:=[(137,true)]) (U:=[]) b0 c0 (.cons rfl .nil) .nil ?_
 dsimp only [offS,List.map]
 refine Ag 30 2147483647 b0 rfl c0 (fun _=>Bu rfl rfl) rfl<|Ag 31 4294967295 b0 rfl c0 (fun _=>Ai rfl) rfl<|Bb 549755813887 15 [(32,152),(33,153),(34,154),(35,155),(36,156),(37,157),(38,158)] (F:=[(151,true)]) (U:=[]) b0 c0 (.cons rfl .nil) .nil ?_
 dsimp only [offS,List.map]
 refine Ag 39 1099511627775 b0 rfl c0 (fun _=>Bu rfl rfl) rfl<|Ag 40 2199023255551 b0 rfl c0 (fun _=>Ai rfl) rfl<|Bb 9007199254740991 1 [(41,161),(42,162),(43,163),(44,164),(45,165),(46,166),(47,167),(48,168),(49,169),(50,170),(51,171),(52,172)] (F:=[(160,true)]) (U:=[]) b0 c0 (.cons rfl .nil) .nil ?_
 dsimp only [offS,List.map]
 refine Ag 53 18014398509481983 b0 rfl c0 (fun _=>Bu rfl rfl) rfl<|AK (dk b0)<|Bd rfl<|Ac<|Af rfl<|Aa ?_
 have h:=thn_inl h x0
 refine Ak rfl<|AR hb0 Tryz.func5 rfl rfl ?_
 cases h
 exact g0.gv
 refine Bb 65535 38 [(5,125),(6,126),(7,127),(8,128),(9,129),(10,130),(11,131),(12,132),(13,133),(14,134),(15,135)] (F:=[(124,true)]) (U:=[]) b0 c0 (.cons rfl .nil) .nil ?_
 dsimp only [offS,List.map]
 refine Ag 16 131071 b0 rfl c0 (fun _=>Bu rfl rfl) rfl<|Ag 17 262143 b0 rfl c0 (fun _=>Ai rfl) rfl<|Bb 1073741823 24 [(18,138),(19,139),(20,140),(21,141),(22,142),(23,143),(24,144),(25,145),(26,146),(27,147),(28,148),(29,149)] (F:=[(137,true)]) (U:=[]) b0 c0 (.cons rfl .nil) .nil ?_
 dsimp only [offS,List.map]
 refine Ag 30 2147483647 b0 rfl c0 (fun _=>Bu rfl rfl) rfl<|Ag 31 4294967295 b0 rfl c0 (fun _=>Ai rfl) rfl<|Bb 549755813887 15 [(32,152),(33,153),(34,154),(35,155),(36,156),(37,157),(38,158)] (F:=[(151,true)]) (U:=[]) b0 c0 (.cons rfl .nil) .nil ?_
 dsimp only [offS,List.map]
 refine Ag 39 1099511627775 b0 rfl c0 (fun _=>Bu rfl rfl) rfl<|Ag 40 2199023255551 b0 rfl c0 (fun _=>Ai rfl) rfl<|Bb 9007199254740991 1 [(41,161),(42,162),(43,163),(44,164),(45,165),(46,166),(47,167),(48,168),(49,169),(50,170),(51,171),(52,172)] (F:=[(160,true)]) (U:=[]) b0 c0 (.cons rfl .nil) .nil ?_
 dsimp only [offS,List.map]
 refine Ag 53 18014398509481983 b0 rfl c0 (fun _=>Bu rfl rfl) rfl<|AK (dk b0)<|Bd rfl<|Ac<|Af rfl<|Aa ?_
 have h:=thn_inl h x0
 refine Ak rfl<|AR hb0 Tryz.func5 rfl rfl ?_
 cases h
 exact g0.gv
 refine AU rfl ?_
 have h:=thn_inr h x0
 try dsimp only at h
 refine Ac<|Af rfl<|Aa<|Ak rfl<|AR hb0 Tryz.func5 rfl rfl ?_
 cases h
 exact J1.gv
 intro J5 A0 h
 try dsimp only at h
 refine Am<|Ae rfl<|Ab (FV.neq (i:=g1.2) (j:=0) rfl rfl)<|Ae rfl<|RG.ifn (s:=63) rfl h (fun P2 h=>?_) (fun P2 h=>?_)
 refine AN (Ai rfl)<|AN (FV.neq (i:=j1.2) (j:=0) rfl rfl)<|RG.pf rfl rfl<|Ae rfl<|RG.ifn (s:=67) rfl h (fun Q2 h=>?_) (fun Q2 h=>?_)
 refine AN (Ai rfl)<|AN (FV.neq (i:=M0.2) (j:=0) rfl rfl)<|RG.pf rfl rfl<|Ae rfl<|RG.ifn (s:=71) rfl h (fun R2 h=>?_) (fun R2 h=>?_)
 refine AN (Ai rfl) ?_
 have Y1:=AA y1 (Tt z0 E0)
 have s6:g1.1.length ≤ 281474976710656:=AQ Y1
 refine AN (AV (xs:=g1.1) Tryz.underlying69 rfl Y1)<|AN (Ai rfl) ?_
 have J4:=Tt y0 (Tt z0 E0)
 have Y0:=AA G0 J4
 have t6:j0.length ≤ 281474976710656:=AQ Y0
 refine AN (AV (xs:=j0) Tryz.underlying30 rfl Y0)<|AN (FV.neqN (i:=g1.1.length) (j:=j0.length) rfl rfl)<|RG.pf rfl rfl<|Ae rfl<|RG.ifn (s:=78) rfl h (fun U2 h=>?_) (fun U2 h=>?_)
 refine AN (Ai rfl) ?_
 have Z1:=AA k2 E0
 have u6:j1.1.length ≤ 281474976710656:=AQ Z1
 refine AN (AV (xs:=j1.1) Tryz.underlying72 rfl Z1)<|AN (Ai rfl)<|AN (AV (xs:=j0) Tryz.underlying30 rfl Y0)<|AN (FV.neqN (i:=j1.1.length) (j:=j0.length) rfl rfl)<|RG.pf rfl rfl<|Ae rfl<|RG.ifn (s:=85) rfl h (fun V2 h=>?_) (fun V2 h=>?_)
 refine AN (Ai rfl) ?_
 have v6:M0.1.length ≤ 281474976710656:=AQ z1
 refine AN (AV (xs:=M0.1) Tryz.underlying60 rfl z1)<|AN (Ai rfl)<|AN (AV (xs:=j0) Tryz.underlying30 rfl Y0)<|AN (FV.neqN (i:=M0.1.length) (j:=j0.length) rfl rfl)<|RG.pf rfl rfl<|Aa ?_
 obtain ⟨k3,A3⟩:=AI B0 .done
 exact A0 (!(decide (M0.1.length = j0.length))) _ _ ⟨rfl,rfl,rfl,rfl,rfl,trivial⟩ ⟨k3,A3⟩ h
 refine Av<|Av<|Av<|Av<|Av<|RG.pt rfl rfl<|Aa ?_
 obtain ⟨p3,B3⟩:=AI B0 .done
 exact A0 true _ _ ⟨rfl,rfl,rfl,rfl,rfl,trivial⟩ ⟨p3,B3⟩ h
 refine Av<|Av<|Av<|Av<|Av<|RG.pt rfl rfl<|Ae rfl<|Av<|Av<|Av<|Av<|Av<|RG.pt rfl rfl<|Aa ?_
 obtain ⟨q3,C3⟩:=AI B0 .done
 exact A0 true _ _ ⟨rfl,rfl,rfl,rfl,rfl,trivial⟩ ⟨q3,C3⟩ h
 refine Av<|Av<|Av<|Av<|Av<|RG.pt rfl rfl<|Ae rfl<|Av<|Av<|Av<|Av<|Av<|RG.pt rfl rfl<|Ae rfl<|Av<|Av<|Av<|Av<|Av<|RG.pt rfl rfl<|Aa ?_
 obtain ⟨s3,D3⟩:=AI B0 .done
 exact A0 true _ _ ⟨rfl,rfl,rfl,rfl,rfl,trivial⟩ ⟨s3,D3⟩ h
 refine Av<|Av<|RG.pt rfl rfl<|Ae rfl<|Av<|Av<|Av<|Av<|Av<|RG.pt rfl rfl<|Ae rfl<|Av<|Av<|Av<|Av<|Av<|RG.pt rfl rfl<|Ae rfl<|Av<|Av<|Av<|Av<|Av<|RG.pt rfl rfl ?_
 refine Aa ?_
 obtain ⟨t3,E3⟩:=AI B0 .done
 exact A0 true _ _ ⟨rfl,rfl,rfl,rfl,rfl,trivial⟩ ⟨t3,E3⟩ h
 refine Av<|Av<|RG.pt rfl rfl<|Ae rfl<|Av<|Av<|RG.pt rfl rfl<|Ae rfl<|Av<|Av<|Av<|Av<|Av<|RG.pt rfl rfl<|Ae rfl<|Av<|Av<|Av<|Av<|Av<|RG.pt rfl rfl<|Ae rfl<|Av<|Av ?_
 refine Av<|Av<|Av<|RG.pt rfl rfl<|Aa ?_
 obtain ⟨u3,F3⟩:=AI B0 .done
 exact A0 true _ _ ⟨rfl,rfl,rfl,rfl,rfl,trivial⟩ ⟨u3,F3⟩ h
 refine Ac<|Af rfl<|Aa<|Ak rfl<|AR hb0 Tryz.func5 rfl rfl ?_
 cases h
 exact s0.gv
end Go.Proofs.YtfccehcnajelgaaGreatDoor
