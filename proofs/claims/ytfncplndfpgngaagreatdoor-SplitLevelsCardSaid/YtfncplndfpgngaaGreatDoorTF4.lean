/- Functions of the program, and what they give: part 4. -/
import Derived.Test.YtfncplndfpgngaaGreatDoorTF3
namespace Go.Proofs.YtfncplndfpgngaaGreatDoor
open Go Go.RowKit
set_option maxRecDepth 4000
set_option maxHeartbeats 4000000

def tb12_5:List (Nat × Nat × Nat):=[(0,268435456,64),(1,536870912,268435456),(2,1073741824,536870912),(4,2147483648,1073741824),(0,4294967296,64),(16,8589934592,4294967296),(32,17179869184,8589934592),(64,34359738368,17179869184),(128,68719476736,34359738368),(264,137438953472,70866960384),(512,274877906944,137438953472),(1024,549755813888,274877906944),(0,1099511627776,4),(0,2199023255552,64),(8192,4398046511104,2199023255552),(20480,8796093022208,5497558138880),(34816,17592186044416,9345848836096),(0,128,0),(262143,0,17592186044544)]
def tb12_11:List (Nat × Nat × Nat):=[(0,590295810358705651712,128),(1,1180591620717411303424,590295810358705651712),(0,2361183241434822606848,4),(0,4722366482869645213696,64),(8,9444732965739290427392,4722366482869645213696),(16,18889465931478580854784,9444732965739290427392),(0,37778931862957161709568,256),(96,75557863725914323419136,56668397794435742564352),(132,151115727451828646838272,77919046967349146025984),(256,302231454903657293676544,151115727451828646838272),(512,604462909807314587353088,302231454903657293676544),(1282,1208925819614629174706176,605643501428031998656512),(4095,2417851639229258349412352,128),(8191,0,3626777458843887524118528)]
def tb12_16:List (Nat × Nat × Nat):=[(0,79228162514264337593543950336,32),(1,158456325028528675187087900672,79228162514264337593543950336),(0,316912650057057350374175801344,32),(4,633825300114114700748351602688,316912650057057350374175801344),(8,1267650600228229401496703205376,633825300114114700748351602688),(0,2535301200456458802993406410752,32),(32,5070602400912917605986812821504,2535301200456458802993406410752),(64,10141204801825835211973625643008,5070602400912917605986812821504),(0,20282409603651670423947251286016,32),(256,40564819207303340847894502572032,20282409603651670423947251286016),(512,81129638414606681695789005144064,40564819207303340847894502572032),(1168,162259276829213363391578010288128,92538493816660746309259333992448),(2048,324518553658426726783156020576256,162259276829213363391578010288128),(4098,649037107316853453566312041152512,324677009983455255458343108476928),(16383,1298074214633706907132624082305024,32),(32767,0,1947111321950560360698936123457536)]
theorem el22:ElT Tryz.prog 22 5 (Rep.size UInt8) 1 (.int .u8 0) [.int .u8 0]:=⟨Tryz.underlying22,by kernel_rfl,rfl,rfl,rfl,rfl⟩
theorem body42:bodyB Tryz.prog 42 = true:=by kernel_rfl
def wardmoteref22_Draft_Roll_l1 (n:Nat) (a0:TDraft26) (t0:Int) (d0:Nat × (List Int) → Option (List Int)):Nat × (List Int) → Option (List Int)
  | (b0,c0)=>(if b0 < ((a0.fh % (3:UInt8)).toNat) then (chk (9 * t0)).bind fun g0=>(chk (g0 + 7)).bind fun j0=>(chk (j0 + ((b0:Nat):Int))).bind fun k0=>(wardmoteref22_Draft_num_p n a0 k0).bind fun s0=>(remI s0 3).bind fun p0=>(app c0 ([p0]:List Int)).bind fun q0=>d0 (b0 + 1,q0) else some c0)
def wardmoteref22_Draft_Roll_l2 (_n:Nat) (a0:TDraft26) (d0:Nat × (List TUnit) → Option (List TUnit)):Nat × (List TUnit) → Option (List TUnit)
  | (b0,c0)=>(if b0 < ((a0.fo % (2:UInt8)).toNat) then (mk (((a0.fe % (3:UInt8)).toNat:Nat):Int) (0:Int)).bind fun g0=>(mk (((a0.fc % (4:UInt8)).toNat:Nat):Int) (0:Int)).bind fun j0=>(mk (((a0.fh % (3:UInt8)).toNat:Nat):Int) (0:Int)).bind fun k0=>(app c0 ([(⟨⟨#[115,101,97]⟩,(0:Int),g0,j0,k0,true⟩:TUnit)]:List TUnit)).bind fun p0=>d0 (b0 + 1,p0) else some c0)
def wardmoteref22_Draft_Roll_l3 (n:Nat) (a1:Int) (a0:TDraft26) (g0:Int × (List TUnit) → Option (List TUnit)):Int × (List TUnit) → Option (List TUnit)
  | (b0,c0)=>(if b0 < a1 then (remI b0 26).bind fun j0=>(chk (97 + j0)).bind fun k0=>(quoI b0 26).bind fun p0=>(remI p0 26).bind fun q0=>(chk (97 + q0)).bind fun s0=>(chk (9 * b0)).bind fun t0=>(wardmoteref22_Draft_num_p n a0 t0).bind fun d0=>(sadd ⟨#[117]⟩ (bstr ([u8ofI k0,u8ofI s0]:List UInt8))).bind fun u0=>(chk (9 * b0)).bind fun v0=>(chk (v0 + 1)).bind fun x0=>(wardmoteref22_Draft_list_p n a0 (((a0.fe % (3:UInt8)).toNat:Nat):Int) x0 d0).bind fun D0=>(chk (9 * b0)).bind fun y0=>(chk (y0 + 3)).bind fun z0=>(wardmoteref22_Draft_list_p n a0 (((a0.fc % (4:UInt8)).toNat:Nat):Int) z0 (255:Int)).bind fun E0=>Option.bind (loopF (wardmoteref22_Draft_Roll_l1 n a0 b0) n (0,([]:List Int))) (fun B0=>(app c0 ([(⟨u0,d0,D0,E0,B0,false⟩:TUnit)]:List TUnit)).bind fun C0=>(chk (b0 + 1)).bind fun A0=>g0 (A0,C0)) else some c0)
def wardmoteref22_Draft_Roll_p (n:Nat) (a0:TDraft26) (a1:Int):Option TRoll:=
  Option.bind (loopF (wardmoteref22_Draft_Roll_l3 n a1 a0) n (0,([]:List TUnit))) (fun c0=>Option.bind (loopF (wardmoteref22_Draft_Roll_l2 n a0) n (0,c0)) (fun b0=>some (⟨(((a0.fe % (3:UInt8)).toNat:Nat):Int),(((a0.fc % (4:UInt8)).toNat:Nat):Int),(((a0.fh % (3:UInt8)).toNat:Nat):Int),b0⟩:TRoll)))
theorem wardmoteref22_Draft_Roll_c (n:Nat) (L:List Nat) (w:World) (hL:∀ b ∈ L,b < w.heap.size) (a0:TDraft26) {v0_4:Value} (h0_4:Rep.R w L [v0_4] a0.fF) (a1:Int)  {r:TRoll} (h:wardmoteref22_Draft_Roll_p n a0 a1 = some r) :
    Calls Tryz.prog 12 #[.agg #[.int .u8 (a0.fe.toNat:Int),.int .u8 (a0.fc.toNat:Int),.int .u8 (a0.fh.toNat:Int),.int .u8 (a0.fo.toNat:Int),v0_4],vI a1] w (Gives w fun w' u=>∃ (v0_3:Value) (cs0_3:List Value),u = .agg #[vI r.fe,vI r.fc,vI r.fh,v0_3]∧St w w' (rowsOf w.heap.size [(61,Rep.size TUnit,v0_3,r.fm.length,cs0_3)])∧Cells w' (bl (rowsOf w.heap.size [(61,Rep.size TUnit,v0_3,r.fm.length,cs0_3)]) ++ L) cs0_3 (r.fm:List TUnit)):=by
 unfold wardmoteref22_Draft_Roll_p at h
 have hS0:=AD w
 refine AI Tryz.func12 rfl rfl rfl (fun _ cs0 hb0=>?_)
 refine Ae<|Az .plain rfl (AK hS0 rfl rfl) (fun D9 g0 C4 g9=>?_)
 refine Az .plain rfl (Ba [vI 0,vI 0,vI 0,vN] C4) (fun I9 j0 W1 j9=>?_)
 refine Aa<|Ae<|Bf 0 rfl<|AN rfl ((W1.memA (.tl .hd)) 0 _ rfl)<|Ac (FV.rem8 (a:=a0.fe) (b:=(3:UInt8)) rfl rfl (by decide)) ?_
 have u9:=(a0.fe % (3:UInt8)).toNat_lt
 refine Ac (FV.convN (i:=(a0.fe % (3:UInt8)).toNat) Tryz.underlying5 Tryz.underlying3 rfl (by omega))<|Bf 1 rfl<|AN rfl ((W1.memA (.tl .hd)) 1 _ rfl)<|Ac (FV.rem8 (a:=a0.fc) (b:=(4:UInt8)) rfl rfl (by decide)) ?_
 have v9:=(a0.fc % (4:UInt8)).toNat_lt
 refine Ac (FV.convN (i:=(a0.fc % (4:UInt8)).toNat) Tryz.underlying5 Tryz.underlying3 rfl (by omega))<|Bf 2 rfl<|AN rfl ((W1.memA (.tl .hd)) 2 _ rfl)<|Ac (FV.rem8 (a:=a0.fh) (b:=(3:UInt8)) rfl rfl (by decide)) ?_
 have x9:=(a0.fh % (3:UInt8)).toNat_lt
 refine Ac (FV.convN (i:=(a0.fh % (3:UInt8)).toNat) Tryz.underlying5 Tryz.underlying3 rfl (by omega))<|Ac (Bh (vs:=[vI (((a0.fe % (3:UInt8)).toNat:Nat):Int),vI (((a0.fc % (4:UInt8)).toNat:Nat):Int),vI (((a0.fh % (3:UInt8)).toNat:Nat):Int)]) (u:=.agg #[vI (((a0.fe % (3:UInt8)).toNat:Nat):Int),vI (((a0.fc % (4:UInt8)).toNat:Nat):Int),vI (((a0.fh % (3:UInt8)).toNat:Nat):Int),vN]) (e3 rfl rfl rfl) (fun w9=>by kernel_rfl))<|Az .plain rfl (Ba [vI 0,vI 0,vI 0,vN] W1) (fun J9 p0 D4 k9=>?_)
 refine Bu [vI (((a0.fe % (3:UInt8)).toNat:Nat):Int),vI (((a0.fc % (4:UInt8)).toNat:Nat):Int),vI (((a0.fh % (3:UInt8)).toNat:Nat):Int),vN] D4 .hd (onesB rfl) (fun q8 g3 p9=>?_)
 refine Aa<|Aj<|Ae<|Af rfl<|Aa<|Au ?_
 have v2:=g3.nilRow 61 (Rep.size TUnit)
 have q9:=BF g3 61 (Rep.size TUnit)
 have y5:=Av (cs:=[]) (xs:=([]:List TUnit)) v2 L (AC _ _)
 have j3:=v2.nilRow 61 (Rep.size TUnit)
 have X4:=BF v2 61 (Rep.size TUnit)
 have s9:=Av (cs:=[]) (xs:=([]:List TUnit)) j3 L (AC _ _)
 have B6:=Ap y5 X4
 obtain ⟨z9,P6,I5⟩:=bind_in2 h
 refine AW (α:=Int × (List TUnit) × Value × (List Value)) (fun ⟨M0,x0,d0,y0⟩=>[(1,vI a1),(2,vP g0),(4,vP j0),(5,vP p0),(6,vI M0)]) (fun ⟨M0,x0,d0,y0⟩ P1=>St w P1 [.row w.heap.size 61 (Rep.size TUnit) vN (([]:List TUnit).length) [],.row w.heap.size 61 (Rep.size TUnit) d0 x0.length y0,.cells p0 [vI (((a0.fe % (3:UInt8)).toNat:Nat):Int),vI (((a0.fc % (4:UInt8)).toNat:Nat):Int),vI (((a0.fh % (3:UInt8)).toNat:Nat):Int),d0] 38,.cells j0 [vI 0,vI 0,vI 0,vN] 38,.cells g0 [.int .u8 (a0.fe.toNat:Int),.int .u8 (a0.fc.toNat:Int),.int .u8 (a0.fh.toNat:Int),.int .u8 (a0.fo.toNat:Int),v0_4] 27]∧Tr q8 [.row w.heap.size 61 (Rep.size TUnit) vN (([]:List TUnit).length) [],.row w.heap.size 61 (Rep.size TUnit) vN (([]:List TUnit).length) [],.cells p0 [vI (((a0.fe % (3:UInt8)).toNat:Nat):Int),vI (((a0.fc % (4:UInt8)).toNat:Nat):Int),vI (((a0.fh % (3:UInt8)).toNat:Nat):Int),vN] 38,.cells j0 [vI 0,vI 0,vI 0,vN] 38,.cells g0 [.int .u8 (a0.fe.toNat:Int),.int .u8 (a0.fc.toNat:Int),.int .u8 (a0.fh.toNat:Int),.int .u8 (a0.fo.toNat:Int),v0_4] 27] P1 [.row w.heap.size 61 (Rep.size TUnit) vN (([]:List TUnit).length) [],.row w.heap.size 61 (Rep.size TUnit) d0 x0.length y0,.cells p0 [vI (((a0.fe % (3:UInt8)).toNat:Nat):Int),vI (((a0.fc % (4:UInt8)).toNat:Nat):Int),vI (((a0.fh % (3:UInt8)).toNat:Nat):Int),d0] 38,.cells j0 [vI 0,vI 0,vI 0,vN] 38,.cells g0 [.int .u8 (a0.fe.toNat:Int),.int .u8 (a0.fc.toNat:Int),.int .u8 (a0.fh.toNat:Int),.int .u8 (a0.fo.toNat:Int),v0_4] 27]∧Cells P1 (bl [.row w.heap.size 61 (Rep.size TUnit) vN (([]:List TUnit).length) [],.row w.heap.size 61 (Rep.size TUnit) d0 x0.length y0,.cells p0 [vI (((a0.fe % (3:UInt8)).toNat:Nat):Int),vI (((a0.fc % (4:UInt8)).toNat:Nat):Int),vI (((a0.fh % (3:UInt8)).toNat:Nat):Int),d0] 38,.cells j0 [vI 0,vI 0,vI 0,vN] 38,.cells g0 [.int .u8 (a0.fe.toNat:Int),.int .u8 (a0.fc.toNat:Int),.int .u8 (a0.fh.toNat:Int),.int .u8 (a0.fo.toNat:Int),v0_4] 27] ++ L) y0 x0) (fun ⟨M0,x0,d0,y0⟩=>(M0,x0)) (0,([]:List TUnit),vN,[]) P6 ⟨rfl,rfl,rfl,rfl,rfl,trivial⟩ ⟨j3,AA _ _,B6⟩ ?_
 rintro K8 ⟨M0,x0,d0,y0⟩ P1 s4 ⟨J1,Y4,D3⟩ h
 unfold wardmoteref22_Draft_Roll_l3 at h
 try dsimp only at h
 refine Aj<|Ae<|Ab rfl<|Ab rfl<|Ac (FV.lss (i:=M0) (j:=a1) rfl rfl)<|Aa<|AM rfl h (fun d4 h=>?_) (fun d4 h=>?_)
 refine Am<|Aj<|Au<|Aj<|dt 18 tb12_5 (fun q0 u0=>?_)
 refine Ai 0 1 q0 rfl u0 (fun _=>Ah rfl) rfl ?_
 obtain ⟨V7,g7,h⟩:=bi h
 refine Ai 1 3 q0 rfl u0 (fun _=>FV.remc (i:=M0) (j:=26) rfl rfl g7) rfl ?_
 obtain ⟨G0,j7,h⟩:=bi h
 refine Ai 2 7 q0 rfl u0 (fun _=>By (i:=97) (j:=V7) rfl rfl j7) rfl<|Ai 3 15 q0 rfl u0 (fun _=>FV.convU8 (i:=G0) Tryz.underlying3 Tryz.underlying5 rfl) rfl<|Ai 4 31 q0 rfl u0 (fun _=>Ah rfl) rfl ?_
 obtain ⟨W7,k7,h⟩:=bi h
 refine Ai 5 63 q0 rfl u0 (fun _=>FV.quoc (i:=M0) (j:=26) rfl rfl k7) rfl ?_
 obtain ⟨X7,p7,h⟩:=bi h
 refine Ai 6 127 q0 rfl u0 (fun _=>FV.remc (i:=W7) (j:=26) rfl rfl p7) rfl ?_
 obtain ⟨v0,q7,h⟩:=bi h
 refine Ai 7 255 q0 rfl u0 (fun _=>By (i:=97) (j:=X7) rfl rfl q7) rfl<|Ai 8 511 q0 rfl u0 (fun _=>FV.convU8 (i:=v0) Tryz.underlying3 Tryz.underlying5 rfl) rfl<|AV 12 4607 360448 q0 rfl u0 (AE rfl (J1.memA (.tl (.tl (.tl (.tl .hd)))))) rfl<|Ai 13 12799 q0 rfl u0 (fun _=>Ah rfl) rfl ?_
 obtain ⟨Y7,s7,h⟩:=bi h
 refine Ai 14 29183 q0 rfl u0 (fun _=>FV.mulc (i:=9) (j:=M0) rfl rfl s7) rfl ?_
 obtain ⟨s0,P7,h⟩:=bi h
 refine RD.cq 15 61951 327680 (vI s0) q0 rfl u0 body41 rfl (e2 rfl rfl) (fun w9 hw9=>wardmoteref22_Draft_num_c n _ w9 (J1.hL0 hL hw9) a0 (J1.k0 h0_4 hw9) Y7 P7) rfl ?_
 obtain ⟨t0,Y3,h⟩:=bi h
 refine RD.meet (α:=Nat) (fun p1=>[(1,vI a1),(2,vP g0),(4,vP j0),(5,vP p0),(6,vI M0),(44,.agg #[.string t0,vI s0,vN,vN,vN,.bool false]),(7,vP p1)]) (fun p1 Y2=>St w Y2 [.cells p1 [.string ⟨#[]⟩,vI 0,vN,vN,vN,.bool false] 61,.row w.heap.size 61 (Rep.size TUnit) vN (([]:List TUnit).length) [],.row w.heap.size 61 (Rep.size TUnit) d0 x0.length y0,.cells p0 [vI (((a0.fe % (3:UInt8)).toNat:Nat):Int),vI (((a0.fc % (4:UInt8)).toNat:Nat):Int),vI (((a0.fh % (3:UInt8)).toNat:Nat):Int),d0] 38,.cells j0 [vI 0,vI 0,vI 0,vN] 38,.cells g0 [.int .u8 (a0.fe.toNat:Int),.int .u8 (a0.fc.toNat:Int),.int .u8 (a0.fh.toNat:Int),.int .u8 (a0.fo.toNat:Int),v0_4] 27]∧Tr P1 [.row w.heap.size 61 (Rep.size TUnit) vN (([]:List TUnit).length) [],.row w.heap.size 61 (Rep.size TUnit) d0 x0.length y0,.cells p0 [vI (((a0.fe % (3:UInt8)).toNat:Nat):Int),vI (((a0.fc % (4:UInt8)).toNat:Nat):Int),vI (((a0.fh % (3:UInt8)).toNat:Nat):Int),d0] 38,.cells j0 [vI 0,vI 0,vI 0,vN] 38,.cells g0 [.int .u8 (a0.fe.toNat:Int),.int .u8 (a0.fc.toNat:Int),.int .u8 (a0.fh.toNat:Int),.int .u8 (a0.fo.toNat:Int),v0_4] 27] Y2 [.cells p1 [.string ⟨#[]⟩,vI 0,vN,vN,vN,.bool false] 61,.row w.heap.size 61 (Rep.size TUnit) vN (([]:List TUnit).length) [],.row w.heap.size 61 (Rep.size TUnit) d0 x0.length y0,.cells p0 [vI (((a0.fe % (3:UInt8)).toNat:Nat):Int),vI (((a0.fc % (4:UInt8)).toNat:Nat):Int),vI (((a0.fh % (3:UInt8)).toNat:Nat):Int),d0] 38,.cells j0 [vI 0,vI 0,vI 0,vN] 38,.cells g0 [.int .u8 (a0.fe.toNat:Int),.int .u8 (a0.fc.toNat:Int),.int .u8 (a0.fh.toNat:Int),.int .u8 (a0.fo.toNat:Int),v0_4] 27]) 1 262143 ?_ ?_
 rintro p1 Y2 ⟨E4,Z4⟩
 try dsimp only
 refine RD.nw 18 524287 q0 rfl rfl .plain (Acts.storeAll (news:=[.string t0,vI s0,vN,vN,vN,.bool false]) E4 .hd rfl rfl rfl rfl rfl rfl (onesB rfl)) (fun K9 K1 b5=>?_)
 refine AX (dk q0)<|Ae<|Ac (AE rfl (K1.memA (.tl (.tl (.tl (.tl (.tl .hd)))))))<|Bf 0 rfl<|Ac (AJ rfl ((K1.memA (.tl (.tl (.tl .hd)))) 0 _ rfl))<|Ab rfl ?_
 obtain ⟨Z7,t7,h⟩:=bi h
 refine Ac (FV.mulc (i:=9) (j:=M0) rfl rfl t7) ?_
 obtain ⟨b8,u7,h⟩:=bi h
 refine Ac (By (i:=Z7) (j:=1) rfl rfl u7)<|Bf 1 rfl<|AN rfl ((K1.memA .hd) 1 _ rfl) ?_
 obtain ⟨p2,Q7,h⟩:=bi h
 refine AQ (fst:=[]) (cap:=[]) .plain body42 rfl (e4 rfl rfl rfl rfl) (fun w9 hw9=>wardmoteref22_Draft_list_c n _ w9 (K1.hL hL hw9) a0 (K1.km h0_4 hw9) (((a0.fe % (3:UInt8)).toNat:Nat):Int) b8 s0 Q7) rfl (fun M9 Q0 p5 ⟨B9,hu_,b2⟩=>?_)
 subst hu_
 obtain ⟨F4,c5⟩:=K1.agr p5
 refine Bf 2 rfl<|RG.now .plain (BH (j:=2) (old:=[.string t0,vI s0,vN,vN,vN,.bool false]) (news:=[Q0]) (new' :=[.string t0,vI s0,Q0,vN,vN,.bool false]) F4 .hd rfl rfl rfl (Rep.c1 b2) rfl rfl (o1 (BI b2)) rfl) (fun P9 Q1 u3=>?_)
 refine Aa<|Ae<|Ac (AE rfl (Q1.memA (.tl (.tl (.tl (.tl (.tl .hd)))))))<|Bf 1 rfl<|Ac (AJ rfl ((Q1.memA (.tl (.tl (.tl .hd)))) 1 _ rfl))<|Ab rfl ?_
 obtain ⟨c8,v7,h⟩:=bi h
 refine Ac (FV.mulc (i:=9) (j:=M0) rfl rfl v7) ?_
 obtain ⟨d8,x7,h⟩:=bi h
 refine Ac (By (i:=c8) (j:=3) rfl rfl x7) ?_
 obtain ⟨q2,R7,h⟩:=bi h
 refine AQ (fst:=[]) (cap:=[]) .plain body42 rfl (e4 rfl rfl rfl rfl) (fun w9 hw9=>wardmoteref22_Draft_list_c n _ w9 (Q1.hL hL hw9) a0 (Q1.km h0_4 hw9) (((a0.fc % (4:UInt8)).toNat:Nat):Int) d8 (255:Int) R7) rfl (fun Q9 Y0 q5 ⟨C9,hu_,c2⟩=>?_)
 subst hu_
 obtain ⟨G4,v3⟩:=Q1.agr q5
 refine Bf 3 rfl<|RG.now .plain (BH (j:=3) (old:=[.string t0,vI s0,Q0,vN,vN,.bool false]) (news:=[Y0]) (new' :=[.string t0,vI s0,Q0,Y0,vN,.bool false]) G4 .hd rfl rfl rfl (Rep.c1 c2) rfl rfl (o1 (BI c2)) rfl) (fun v8 k3 P2=>?_)
 refine Aa<|Aj<|Ae<|Af rfl<|Aa<|Au ?_
 have p3:=k3.nilRow 3 (Rep.size Int)
 have Q2:=BF k3 3 (Rep.size Int)
 have z5:=Av (cs:=[]) (xs:=([]:List Int)) p3 L (AC _ _)
 obtain ⟨A9,Q6,J5⟩:=bind_in2 h
 refine AW (α:=Nat × (List Int) × Value × (List Value)) (fun ⟨A1,W0,K0,E1⟩=>[(1,vI a1),(2,vP g0),(4,vP j0),(5,vP p0),(6,vI M0),(7,vP p1),(8,vI ((A1:Nat):Int))]) (fun ⟨A1,W0,K0,E1⟩ k2=>St w k2 [.row w.heap.size 3 (Rep.size Int) K0 W0.length E1,.cells p1 [.string t0,vI s0,Q0,Y0,K0,.bool false] 61,.row w.heap.size 61 (Rep.size TUnit) vN (([]:List TUnit).length) [],.row w.heap.size 61 (Rep.size TUnit) d0 x0.length y0,.cells p0 [vI (((a0.fe % (3:UInt8)).toNat:Nat):Int),vI (((a0.fc % (4:UInt8)).toNat:Nat):Int),vI (((a0.fh % (3:UInt8)).toNat:Nat):Int),d0] 38,.cells j0 [vI 0,vI 0,vI 0,vN] 38,.cells g0 [.int .u8 (a0.fe.toNat:Int),.int .u8 (a0.fc.toNat:Int),.int .u8 (a0.fh.toNat:Int),.int .u8 (a0.fo.toNat:Int),v0_4] 27]∧Tr v8 [.row w.heap.size 3 (Rep.size Int) vN (([]:List Int).length) [],.cells p1 [.string t0,vI s0,Q0,Y0,vN,.bool false] 61,.row w.heap.size 61 (Rep.size TUnit) vN (([]:List TUnit).length) [],.row w.heap.size 61 (Rep.size TUnit) d0 x0.length y0,.cells p0 [vI (((a0.fe % (3:UInt8)).toNat:Nat):Int),vI (((a0.fc % (4:UInt8)).toNat:Nat):Int),vI (((a0.fh % (3:UInt8)).toNat:Nat):Int),d0] 38,.cells j0 [vI 0,vI 0,vI 0,vN] 38,.cells g0 [.int .u8 (a0.fe.toNat:Int),.int .u8 (a0.fc.toNat:Int),.int .u8 (a0.fh.toNat:Int),.int .u8 (a0.fo.toNat:Int),v0_4] 27] k2 [.row w.heap.size 3 (Rep.size Int) K0 W0.length E1,.cells p1 [.string t0,vI s0,Q0,Y0,K0,.bool false] 61,.row w.heap.size 61 (Rep.size TUnit) vN (([]:List TUnit).length) [],.row w.heap.size 61 (Rep.size TUnit) d0 x0.length y0,.cells p0 [vI (((a0.fe % (3:UInt8)).toNat:Nat):Int),vI (((a0.fc % (4:UInt8)).toNat:Nat):Int),vI (((a0.fh % (3:UInt8)).toNat:Nat):Int),d0] 38,.cells j0 [vI 0,vI 0,vI 0,vN] 38,.cells g0 [.int .u8 (a0.fe.toNat:Int),.int .u8 (a0.fc.toNat:Int),.int .u8 (a0.fh.toNat:Int),.int .u8 (a0.fo.toNat:Int),v0_4] 27]∧Cells k2 (bl [.row w.heap.size 3 (Rep.size Int) K0 W0.length E1,.cells p1 [.string t0,vI s0,Q0,Y0,K0,.bool false] 61,.row w.heap.size 61 (Rep.size TUnit) vN (([]:List TUnit).length) [],.row w.heap.size 61 (Rep.size TUnit) d0 x0.length y0,.cells p0 [vI (((a0.fe % (3:UInt8)).toNat:Nat):Int),vI (((a0.fc % (4:UInt8)).toNat:Nat):Int),vI (((a0.fh % (3:UInt8)).toNat:Nat):Int),d0] 38,.cells j0 [vI 0,vI 0,vI 0,vN] 38,.cells g0 [.int .u8 (a0.fe.toNat:Int),.int .u8 (a0.fc.toNat:Int),.int .u8 (a0.fh.toNat:Int),.int .u8 (a0.fo.toNat:Int),v0_4] 27] ++ L) E1 W0) (fun ⟨A1,W0,K0,E1⟩=>(A1,W0)) (0,([]:List Int),vN,[]) Q6 ⟨rfl,rfl,rfl,rfl,rfl,rfl,rfl,trivial⟩ ⟨p3,AA _ _,z5⟩ ?_
 rintro M8 ⟨A1,W0,K0,E1⟩ k2 t4 ⟨b1,Y1,E3⟩ h
 unfold wardmoteref22_Draft_Roll_l1 at h
 try dsimp only at h
 refine Aj<|Ae<|Ab rfl<|Bf 2 rfl<|Ac (AJ rfl ((b1.memA (.tl (.tl (.tl (.tl .hd))))) 2 _ rfl))<|Ac (Bg (i:=A1) (j:=(a0.fh % (3:UInt8)).toNat) rfl rfl)<|Aa<|AM rfl h (fun g4 h=>?_) (fun g4 h=>?_)
 refine Am<|Aj<|Au<|dt 11 tb12_11 (fun z0 d1=>?_)
 refine Ai 0 1 z0 rfl d1 (fun _=>Br 4 rfl) rfl<|AV 1 3 14336 z0 rfl d1 (AJ rfl ((b1.memA (.tl .hd)) 4 _ rfl)) rfl<|AV 2 7 16128 z0 rfl d1 (AE rfl (b1.memA (.tl (.tl (.tl (.tl (.tl (.tl .hd)))))))) rfl<|Ai 3 15 z0 rfl d1 (fun _=>Ah rfl) rfl ?_
 obtain ⟨g8,y7,h⟩:=bi h
 refine Ai 4 31 z0 rfl d1 (fun _=>FV.mulc (i:=9) (j:=M0) rfl rfl y7) rfl ?_
 obtain ⟨j8,z7,h⟩:=bi h
 refine Ai 5 63 z0 rfl d1 (fun _=>By (i:=g8) (j:=7) rfl rfl z7) rfl<|Ai 6 127 z0 rfl d1 (fun _=>Ah rfl) rfl ?_
 obtain ⟨k8,A7,h⟩:=bi h
 refine Ai 7 255 z0 rfl d1 (fun _=>By (i:=j8) (j:=((A1:Nat):Int)) rfl rfl A7) rfl ?_
 obtain ⟨Z3,U7,h⟩:=bi h
 refine RD.cq 8 511 15872 (vI Z3) z0 rfl d1 body41 rfl (e2 rfl rfl) (fun w9 hw9=>wardmoteref22_Draft_num_c n _ w9 (b1.hL0 hL hw9) a0 (b1.k0 h0_4 hw9) k8 U7) rfl ?_
 obtain ⟨G1,B7,h⟩:=bi h
 refine Ai 9 1023 z0 rfl d1 (fun _=>FV.remc (i:=Z3) (j:=3) rfl rfl B7) rfl<|RD.nu 10 2047 z0 rfl .plain rfl (AF (α:=Int) (xs:=([G1]:List Int)) (vs:=[vI G1]) (ds' :=[vI G1]) rfl b1 el32 rfl (e1 rfl) (by kernel_rfl) rfl) (fun R9 Q8 y2 x3=>?_)
 have A5:=Av (cs:=[vI G1]) (xs:=(([G1]:List Int):List Int)) y2 L (Ax (cs:=[vI G1]) (ds:=[]) rfl (AC _ _))
 obtain ⟨y8,K7,h⟩:=bi h
 have C6:=Ap E3 x3
 refine RD.one (i:=11) (rk z0) (BD (m' :=4095) (sk z0) rfl rfl .plain rfl (Bc (α:=Int) (ys:=([G1]:List Int)) K7 y2 (fun _ _=>(.tl .hd)) el32 rfl rfl C6 (Src.row (α:=Int) y2 .hd A5)) (fun W2 U9 ⟨k4,z2,d5,B5⟩=>?_))
 refine Ai 12 8191 z0 rfl d1 (fun _=>Br 4 rfl) rfl<|RD.nw 13 16383 z0 rfl rfl .plain (BH (j:=4) (old:=[.string t0,vI s0,Q0,Y0,K0,.bool false]) (news:=[W2]) (new' :=[.string t0,vI s0,Q0,Y0,W2,.bool false]) z2 (.tl (.tl .hd)) rfl rfl rfl (St.c1 (α:=Int) z2 (.tl .hd)) rfl rfl (o1 (St.o1 (α:=Int) z2 (.tl .hd))) rfl) (fun V9 H4 y3=>?_)
 refine AX (dk z0)<|Aq<|Al<|Ab rfl<|Ac (AT (i:=A1) (j:=1) rfl rfl (by omega))<|Af rfl<|Aa ?_
 obtain ⟨I4,z3⟩:=Ay H4 (.one (.tl .hd) (.one (.tl .hd) (.one (.tl .hd) (.one (.tl .hd) (.one (.tl .hd) (.one (.tl .hd) (.one (.tl .hd) .done)))))))
 have D6:=Ap B5 (Tt y3 z3)
 have V6:=Tt x3 (Tt d5 (Tt y3 z3))
 exact t4 (A1 + 1,y8,W2,k4) _ _ ⟨rfl,rfl,rfl,rfl,rfl,rfl,rfl,trivial⟩ ⟨I4,(Tt Y1 V6),D6⟩ h
 refine AR rfl ?_
 have h:=J5 _ h
 try dsimp only at h
 refine Al<|Bf 3 rfl<|Ac (AJ rfl ((b1.memA (.tl (.tl (.tl (.tl .hd))))) 3 _ rfl))<|Ac (AE rfl (b1.memA (.tl .hd))) ?_
 have d7:=AU (α:=Int) b1 .hd E3 hL
 have q3:=Bk b1 .hd
 have R2:=Bl b1 .hd
 have X3:=Bm (α:=Int) (v:=K0) (xs:=W0) q3 L d7
 have P3:=Tt u3 (Tt v3 (Tt P2 (Tt Q2 (Tt Y1 R2))))
 have E6:=Aw b2 P3
 have Q3:=Tt P2 (Tt Q2 (Tt Y1 R2))
 have F6:=Aw c2 Q3
 obtain ⟨G8,b9,G7,_⟩:=Rep.sl E6
 obtain ⟨H8,c9,H7,_⟩:=Rep.sl F6
 obtain ⟨I8,d9,I7,_⟩:=Rep.sl X3
 refine Az .plain rfl (AF (α:=TUnit) (xs:=([(⟨t0,s0,p2,q2,W0,false⟩:TUnit)]:List TUnit)) (vs:=[.agg #[.string t0,vI s0,Q0,Y0,K0,.bool false]]) (ds' :=[.string t0,vI s0,Q0,Y0,K0,.bool false]) rfl q3 el36 rfl (e1 rfl) (by rw [G7,H7,I7]; try kernel_rfl) rfl) (fun W9 R8 A2 Z1=>?_)
 have G6:=Aw b2 (Tt P3 Z1)
 have H6:=Aw c2 (Tt Q3 Z1)
 have I6:=Aw X3 Z1
 have C5:=Av (cs:=[.string t0,vI s0,Q0,Y0,K0,.bool false]) (xs:=(([(⟨t0,s0,p2,q2,W0,false⟩:TUnit)]:List TUnit):List TUnit)) A2 L (Ax (cs:=[.string t0,vI s0,Q0,Y0,K0,.bool false]) (ds:=[]) (mk_TUnit t0 s0 p2 G6 q2 H6 W0 I6 false) (AC _ _))
 obtain ⟨z8,M7,h⟩:=bi h
 have R3:=Tt Z4 (Tt b5 (Tt c5 (Tt u3 (Tt v3 (Tt P2 (Tt Q2 (Tt Y1 (Tt R2 Z1))))))))
 have J6:=Ap D3 R3
 refine RG.doesL .plain rfl (Bc (α:=TUnit) (ys:=([(⟨t0,s0,p2,q2,W0,false⟩:TUnit)]:List TUnit)) M7 A2 (fun _ _=>(.tl (.tl (.tl .hd)))) el36 rfl rfl J6 (Src.row (α:=TUnit) A2 .hd C5)) (fun X2 X9 ⟨p4,B2,g5,D5⟩=>?_)
 refine Bf 3 rfl<|RG.now .plain (BH (j:=3) (old:=[vI (((a0.fe % (3:UInt8)).toNat:Nat):Int),vI (((a0.fc % (4:UInt8)).toNat:Nat):Int),vI (((a0.fh % (3:UInt8)).toNat:Nat):Int),d0]) (news:=[X2]) (new' :=[vI (((a0.fe % (3:UInt8)).toNat:Nat):Int),vI (((a0.fc % (4:UInt8)).toNat:Nat):Int),vI (((a0.fh % (3:UInt8)).toNat:Nat):Int),X2]) B2 (.tl (.tl (.tl (.tl .hd)))) rfl rfl rfl (St.c1 (α:=TUnit) B2 (.tl (.tl (.tl .hd)))) rfl rfl (o1 (St.o1 (α:=TUnit) B2 (.tl (.tl (.tl .hd))))) rfl) (fun Y9 J4 A3=>?_)
 refine Aa<|Aq<|Al<|Ab rfl ?_
 obtain ⟨p8,C7,h⟩:=bi h
 refine Ac (By (i:=M0) (j:=1) rfl rfl C7)<|Af rfl<|Aa ?_
 obtain ⟨K4,B3⟩:=Ay J4 (.one (.tl (.tl .hd)) (.one (.tl (.tl .hd)) (.one (.tl (.tl .hd)) (.one (.tl (.tl .hd)) (.one (.tl (.tl .hd)) .done)))))
 have K6:=Ap D5 (Tt A3 B3)
 have W6:=Tt R3 (Tt g5 (Tt A3 B3))
 exact s4 (p8,z8,X2,p4) _ _ ⟨rfl,rfl,rfl,rfl,rfl,trivial⟩ ⟨K4,(Tt Y4 W6),K6⟩ h
 intro Z2
 refine RD.each [9,17] (rk q0) ⟨?_,?_,trivial⟩
 refine RO.new (m' :=62463) (sk q0) rfl .plain rfl (AF (α:=UInt8) (xs:=([u8ofI G0,u8ofI v0]:List UInt8)) (vs:=[.int .u8 ((u8ofI G0).toNat:Int),.int .u8 ((u8ofI v0).toNat:Int)]) (ds' :=[.int .u8 ((u8ofI G0).toNat:Int),.int .u8 ((u8ofI v0).toNat:Int)]) rfl J1 el22 rfl (e2 rfl rfl) (by kernel_rfl) rfl) (fun s8 b4 F1 K2=>?_)
 have U2:=Av (cs:=[.int .u8 ((u8ofI G0).toNat:Int),.int .u8 ((u8ofI v0).toNat:Int)]) (xs:=(([u8ofI G0,u8ofI v0]:List UInt8):List UInt8)) F1 L (Ax (cs:=[.int .u8 ((u8ofI G0).toNat:Int)]) (ds:=[.int .u8 ((u8ofI v0).toNat:Int)]) rfl (Ax (cs:=[.int .u8 ((u8ofI v0).toNat:Int)]) (ds:=[]) rfl (AC _ _)))
 refine AV 10 63487 329728 q0 rfl u0 (FV.bytesS (xs:=([u8ofI G0,u8ofI v0]:List UInt8)) Tryz.underlying22 Tryz.underlying9 Tryz.underlying5 rfl (Src.row (α:=UInt8) F1 .hd U2)) rfl<|Ai 11 65535 q0 rfl u0 (fun _=>FV.addS Y3 rfl rfl) rfl<|Ai 16 131071 q0 rfl u0 (fun _=>Bh (vs:=[.string t0,vI s0]) (u:=.agg #[.string t0,vI s0,vN,vN,vN,.bool false]) (e2 rfl rfl) (fun w9=>by kernel_rfl)) rfl<|RD.nu 17 262143 q0 rfl .plain rfl (Ba [.string ⟨#[]⟩,vI 0,vN,vN,vN,.bool false] F1) (fun t8 s2 x2 M2=>?_)
 obtain ⟨M4,j5⟩:=Ay x2 (.one .hd (.one (.tl .hd) (.one (.tl .hd) (.one (.tl .hd) (.one (.tl .hd) (.one (.tl .hd) .done))))))
 have X6:=Tt K2 (Tt M2 j5)
 exact Z2 s2 _ _ ⟨rfl,rfl,rfl,rfl,rfl,rfl,rfl,trivial⟩ ⟨M4,X6⟩
 refine RO.new (m' :=193023) (sk q0) rfl .plain rfl (Ba [.string ⟨#[]⟩,vI 0,vN,vN,vN,.bool false] J1) (fun t8 s2 x2 M2=>?_)
 refine RD.nu 9 193535 q0 rfl .plain rfl (AF (α:=UInt8) (xs:=([u8ofI G0,u8ofI v0]:List UInt8)) (vs:=[.int .u8 ((u8ofI G0).toNat:Int),.int .u8 ((u8ofI v0).toNat:Int)]) (ds' :=[.int .u8 ((u8ofI G0).toNat:Int),.int .u8 ((u8ofI v0).toNat:Int)]) rfl x2 el22 rfl (e2 rfl rfl) (by kernel_rfl) rfl) (fun s8 b4 F1 K2=>?_)
 have U2:=Av (cs:=[.int .u8 ((u8ofI G0).toNat:Int),.int .u8 ((u8ofI v0).toNat:Int)]) (xs:=(([u8ofI G0,u8ofI v0]:List UInt8):List UInt8)) F1 L (Ax (cs:=[.int .u8 ((u8ofI G0).toNat:Int)]) (ds:=[.int .u8 ((u8ofI v0).toNat:Int)]) rfl (Ax (cs:=[.int .u8 ((u8ofI v0).toNat:Int)]) (ds:=[]) rfl (AC _ _)))
 refine AV 10 194559 329728 q0 rfl u0 (FV.bytesS (xs:=([u8ofI G0,u8ofI v0]:List UInt8)) Tryz.underlying22 Tryz.underlying9 Tryz.underlying5 rfl (Src.row (α:=UInt8) F1 .hd U2)) rfl<|Ai 11 196607 q0 rfl u0 (fun _=>FV.addS Y3 rfl rfl) rfl<|Ai 16 262143 q0 rfl u0 (fun _=>Bh (vs:=[.string t0,vI s0]) (u:=.agg #[.string t0,vI s0,vN,vN,vN,.bool false]) (e2 rfl rfl) (fun w9=>by kernel_rfl)) rfl ?_
 obtain ⟨P4,k5⟩:=Ay F1 (.one (.tl .hd) (.one (.tl .hd) (.one (.tl .hd) (.one (.tl .hd) (.one (.tl .hd) (.one (.tl .hd) .done))))))
 have Y6:=Tt M2 (Tt K2 k5)
 exact Z2 s2 _ _ ⟨rfl,rfl,rfl,rfl,rfl,rfl,rfl,trivial⟩ ⟨P4,Y6⟩
 refine AR rfl ?_
 have h:=I5 _ h
 try dsimp only at h
 refine Aj<|Ae<|Af rfl<|Aa<|Au ?_
 obtain ⟨y9,M6,H5⟩:=bind_in2 h
 refine AW (α:=Nat × (List TUnit) × Value × (List Value)) (fun ⟨z1,R0,c0,P0⟩=>[(2,vP g0),(4,vP j0),(5,vP p0),(9,vI ((z1:Nat):Int))]) (fun ⟨z1,R0,c0,P0⟩ R1=>St w R1 [.row w.heap.size 61 (Rep.size TUnit) vN (([]:List TUnit).length) [],.row w.heap.size 61 (Rep.size TUnit) c0 R0.length P0,.cells p0 [vI (((a0.fe % (3:UInt8)).toNat:Nat):Int),vI (((a0.fc % (4:UInt8)).toNat:Nat):Int),vI (((a0.fh % (3:UInt8)).toNat:Nat):Int),c0] 38,.cells j0 [vI 0,vI 0,vI 0,vN] 38,.cells g0 [.int .u8 (a0.fe.toNat:Int),.int .u8 (a0.fc.toNat:Int),.int .u8 (a0.fh.toNat:Int),.int .u8 (a0.fo.toNat:Int),v0_4] 27]∧Tr P1 [.row w.heap.size 61 (Rep.size TUnit) vN (([]:List TUnit).length) [],.row w.heap.size 61 (Rep.size TUnit) d0 x0.length y0,.cells p0 [vI (((a0.fe % (3:UInt8)).toNat:Nat):Int),vI (((a0.fc % (4:UInt8)).toNat:Nat):Int),vI (((a0.fh % (3:UInt8)).toNat:Nat):Int),d0] 38,.cells j0 [vI 0,vI 0,vI 0,vN] 38,.cells g0 [.int .u8 (a0.fe.toNat:Int),.int .u8 (a0.fc.toNat:Int),.int .u8 (a0.fh.toNat:Int),.int .u8 (a0.fo.toNat:Int),v0_4] 27] R1 [.row w.heap.size 61 (Rep.size TUnit) vN (([]:List TUnit).length) [],.row w.heap.size 61 (Rep.size TUnit) c0 R0.length P0,.cells p0 [vI (((a0.fe % (3:UInt8)).toNat:Nat):Int),vI (((a0.fc % (4:UInt8)).toNat:Nat):Int),vI (((a0.fh % (3:UInt8)).toNat:Nat):Int),c0] 38,.cells j0 [vI 0,vI 0,vI 0,vN] 38,.cells g0 [.int .u8 (a0.fe.toNat:Int),.int .u8 (a0.fc.toNat:Int),.int .u8 (a0.fh.toNat:Int),.int .u8 (a0.fo.toNat:Int),v0_4] 27]∧Cells R1 (bl [.row w.heap.size 61 (Rep.size TUnit) vN (([]:List TUnit).length) [],.row w.heap.size 61 (Rep.size TUnit) c0 R0.length P0,.cells p0 [vI (((a0.fe % (3:UInt8)).toNat:Nat):Int),vI (((a0.fc % (4:UInt8)).toNat:Nat):Int),vI (((a0.fh % (3:UInt8)).toNat:Nat):Int),c0] 38,.cells j0 [vI 0,vI 0,vI 0,vN] 38,.cells g0 [.int .u8 (a0.fe.toNat:Int),.int .u8 (a0.fc.toNat:Int),.int .u8 (a0.fh.toNat:Int),.int .u8 (a0.fo.toNat:Int),v0_4] 27] ++ L) P0 R0) (fun ⟨z1,R0,c0,P0⟩=>(z1,R0)) (0,x0,d0,y0) M6 ⟨rfl,rfl,rfl,rfl,trivial⟩ ⟨J1,AA _ _,D3⟩ ?_
 rintro J8 ⟨z1,R0,c0,P0⟩ R1 q4 ⟨Z0,Q4,C3⟩ h
 unfold wardmoteref22_Draft_Roll_l2 at h
 try dsimp only at h
 refine Aj<|Ae<|Ab rfl<|Bf 3 rfl<|Ac (AJ rfl ((Z0.memA (.tl (.tl (.tl (.tl .hd))))) 3 _ rfl))<|Ac (FV.rem8 (a:=a0.fo) (b:=(2:UInt8)) rfl rfl (by decide)) ?_
 have t9:=(a0.fo % (2:UInt8)).toNat_lt
 refine Ac (FV.convN (i:=(a0.fo % (2:UInt8)).toNat) Tryz.underlying5 Tryz.underlying3 rfl (by omega))<|Ac (Bg (i:=z1) (j:=(a0.fo % (2:UInt8)).toNat) rfl rfl)<|Aa<|AM rfl h (fun c4 h=>?_) (fun c4 h=>?_)
 refine Am<|Aj<|Au<|dt 13 tb12_16 (fun b0 y1=>?_)
 refine Ai 0 1 b0 rfl y1 (fun _=>Br 3 rfl) rfl<|AV 1 3 57344 b0 rfl y1 (AJ rfl ((Z0.memA (.tl (.tl .hd))) 3 _ rfl)) rfl<|Ai 2 7 b0 rfl y1 (fun _=>Br 0 rfl) rfl<|AV 3 15 63504 b0 rfl y1 (AJ rfl ((Z0.memA (.tl (.tl .hd))) 0 _ rfl)) rfl<|Ai 5 47 b0 rfl y1 (fun _=>Br 1 rfl) rfl<|AV 6 111 63616 b0 rfl y1 (AJ rfl ((Z0.memA (.tl (.tl .hd))) 1 _ rfl)) rfl<|Ai 8 367 b0 rfl y1 (fun _=>Br 2 rfl) rfl<|AV 9 879 64512 b0 rfl y1 (AJ rfl ((Z0.memA (.tl (.tl .hd))) 2 _ rfl)) rfl ?_
 obtain ⟨A0,u1,h⟩:=bi h
 obtain ⟨B0,v1,h⟩:=bi h
 obtain ⟨C0,x1,h⟩:=bi h
 refine RD.meet (α:=Value × (List Value) × Value × (List Value) × Value × (List Value)) (fun ⟨H0,B1,I0,C1,J0,D1⟩=>[(2,vP g0),(4,vP j0),(5,vP p0),(9,vI ((z1:Nat):Int)),(97,c0),(100,J0),(103,I0),(106,H0)]) (fun ⟨H0,B1,I0,C1,J0,D1⟩ M1=>St w M1 [.row w.heap.size 3 (Rep.size Int) H0 C0.length B1,.row w.heap.size 3 (Rep.size Int) I0 B0.length C1,.row w.heap.size 3 (Rep.size Int) J0 A0.length D1,.row w.heap.size 61 (Rep.size TUnit) vN (([]:List TUnit).length) [],.row w.heap.size 61 (Rep.size TUnit) c0 R0.length P0,.cells p0 [vI (((a0.fe % (3:UInt8)).toNat:Nat):Int),vI (((a0.fc % (4:UInt8)).toNat:Nat):Int),vI (((a0.fh % (3:UInt8)).toNat:Nat):Int),c0] 38,.cells j0 [vI 0,vI 0,vI 0,vN] 38,.cells g0 [.int .u8 (a0.fe.toNat:Int),.int .u8 (a0.fc.toNat:Int),.int .u8 (a0.fh.toNat:Int),.int .u8 (a0.fo.toNat:Int),v0_4] 27]∧Tr R1 [.row w.heap.size 61 (Rep.size TUnit) vN (([]:List TUnit).length) [],.row w.heap.size 61 (Rep.size TUnit) c0 R0.length P0,.cells p0 [vI (((a0.fe % (3:UInt8)).toNat:Nat):Int),vI (((a0.fc % (4:UInt8)).toNat:Nat):Int),vI (((a0.fh % (3:UInt8)).toNat:Nat):Int),c0] 38,.cells j0 [vI 0,vI 0,vI 0,vN] 38,.cells g0 [.int .u8 (a0.fe.toNat:Int),.int .u8 (a0.fc.toNat:Int),.int .u8 (a0.fh.toNat:Int),.int .u8 (a0.fo.toNat:Int),v0_4] 27] M1 [.row w.heap.size 3 (Rep.size Int) H0 C0.length B1,.row w.heap.size 3 (Rep.size Int) I0 B0.length C1,.row w.heap.size 3 (Rep.size Int) J0 A0.length D1,.row w.heap.size 61 (Rep.size TUnit) vN (([]:List TUnit).length) [],.row w.heap.size 61 (Rep.size TUnit) c0 R0.length P0,.cells p0 [vI (((a0.fe % (3:UInt8)).toNat:Nat):Int),vI (((a0.fc % (4:UInt8)).toNat:Nat):Int),vI (((a0.fh % (3:UInt8)).toNat:Nat):Int),c0] 38,.cells j0 [vI 0,vI 0,vI 0,vN] 38,.cells g0 [.int .u8 (a0.fe.toNat:Int),.int .u8 (a0.fc.toNat:Int),.int .u8 (a0.fh.toNat:Int),.int .u8 (a0.fo.toNat:Int),v0_4] 27]∧Cells M1 (bl [.row w.heap.size 3 (Rep.size Int) H0 C0.length B1,.row w.heap.size 3 (Rep.size Int) I0 B0.length C1,.row w.heap.size 3 (Rep.size Int) J0 A0.length D1,.row w.heap.size 61 (Rep.size TUnit) vN (([]:List TUnit).length) [],.row w.heap.size 61 (Rep.size TUnit) c0 R0.length P0,.cells p0 [vI (((a0.fe % (3:UInt8)).toNat:Nat):Int),vI (((a0.fc % (4:UInt8)).toNat:Nat):Int),vI (((a0.fh % (3:UInt8)).toNat:Nat):Int),c0] 38,.cells j0 [vI 0,vI 0,vI 0,vN] 38,.cells g0 [.int .u8 (a0.fe.toNat:Int),.int .u8 (a0.fc.toNat:Int),.int .u8 (a0.fh.toNat:Int),.int .u8 (a0.fo.toNat:Int),v0_4] 27] ++ L) B1 (C0:List Int)∧Cells M1 (bl [.row w.heap.size 3 (Rep.size Int) H0 C0.length B1,.row w.heap.size 3 (Rep.size Int) I0 B0.length C1,.row w.heap.size 3 (Rep.size Int) J0 A0.length D1,.row w.heap.size 61 (Rep.size TUnit) vN (([]:List TUnit).length) [],.row w.heap.size 61 (Rep.size TUnit) c0 R0.length P0,.cells p0 [vI (((a0.fe % (3:UInt8)).toNat:Nat):Int),vI (((a0.fc % (4:UInt8)).toNat:Nat):Int),vI (((a0.fh % (3:UInt8)).toNat:Nat):Int),c0] 38,.cells j0 [vI 0,vI 0,vI 0,vN] 38,.cells g0 [.int .u8 (a0.fe.toNat:Int),.int .u8 (a0.fc.toNat:Int),.int .u8 (a0.fh.toNat:Int),.int .u8 (a0.fo.toNat:Int),v0_4] 27] ++ L) C1 (B0:List Int)∧Cells M1 (bl [.row w.heap.size 3 (Rep.size Int) H0 C0.length B1,.row w.heap.size 3 (Rep.size Int) I0 B0.length C1,.row w.heap.size 3 (Rep.size Int) J0 A0.length D1,.row w.heap.size 61 (Rep.size TUnit) vN (([]:List TUnit).length) [],.row w.heap.size 61 (Rep.size TUnit) c0 R0.length P0,.cells p0 [vI (((a0.fe % (3:UInt8)).toNat:Nat):Int),vI (((a0.fc % (4:UInt8)).toNat:Nat):Int),vI (((a0.fh % (3:UInt8)).toNat:Nat):Int),c0] 38,.cells j0 [vI 0,vI 0,vI 0,vN] 38,.cells g0 [.int .u8 (a0.fe.toNat:Int),.int .u8 (a0.fc.toNat:Int),.int .u8 (a0.fh.toNat:Int),.int .u8 (a0.fo.toNat:Int),v0_4] 27] ++ L) D1 (A0:List Int)) 5 2047 ?_ ?_
 rintro ⟨H0,B1,I0,C1,J0,D1⟩ M1 ⟨I1,R4,s5,t5,u5⟩
 try dsimp only
 obtain ⟨A8,U8,E5⟩:=St.rowV (α:=Int) I1 (.tl (.tl .hd))
 obtain ⟨B8,V8,F5⟩:=St.rowV (α:=Int) I1 (.tl .hd)
 obtain ⟨C8,W8,G5⟩:=St.rowV (α:=Int) I1 .hd
 refine Ai 11 4095 b0 rfl y1 (fun _=>Bh (vs:=[.string ⟨#[115,101,97]⟩,.bool true,J0,I0,H0]) (u:=.agg #[.string ⟨#[115,101,97]⟩,vI 0,J0,I0,H0,.bool true]) (e5 rfl rfl rfl rfl rfl) (fun w9=>by rw [E5,F5,G5]; try kernel_rfl)) rfl ?_
 have Z6:=AU (α:=Int) I1 (.tl (.tl .hd)) u5 hL
 have U1:=Bk I1 (.tl (.tl .hd))
 have C2:=Bl I1 (.tl (.tl .hd))
 have U3:=Bm (α:=Int) (v:=J0) (xs:=A0) U1 L Z6
 have K5:=Ap t5 C2
 have b7:=AU (α:=Int) U1 (.tl .hd) K5 hL
 have V1:=Bk U1 (.tl .hd)
 have D2:=Bl U1 (.tl .hd)
 have V3:=Bm (α:=Int) (v:=I0) (xs:=B0) V1 L b7
 have M5:=Ap s5 (Tt C2 D2)
 have c7:=AU (α:=Int) V1 .hd M5 hL
 have b3:=Bk V1 .hd
 have X1:=Bl V1 .hd
 have W3:=Bm (α:=Int) (v:=H0) (xs:=C0) b3 L c7
 have P5:=Aw U3 (Tt D2 X1)
 have Q5:=Aw V3 X1
 obtain ⟨D8,X8,D7,_⟩:=Rep.sl P5
 obtain ⟨E8,Y8,E7,_⟩:=Rep.sl Q5
 obtain ⟨F8,Z8,F7,_⟩:=Rep.sl W3
 refine RD.nu 12 8191 b0 rfl .plain rfl (AF (α:=TUnit) (xs:=([(⟨⟨#[115,101,97]⟩,(0:Int),A0,B0,C0,true⟩:TUnit)]:List TUnit)) (vs:=[.agg #[.string ⟨#[115,101,97]⟩,vI 0,J0,I0,H0,.bool true]]) (ds' :=[.string ⟨#[115,101,97]⟩,vI 0,J0,I0,H0,.bool true]) rfl b3 el36 rfl (e1 rfl) (by rw [D7,E7,F7]; try kernel_rfl) rfl) (fun E9 P8 t2 E2=>?_)
 have F3:=Tt D2 (Tt X1 E2)
 have R5:=Aw U3 F3
 have U5:=Aw V3 (Tt X1 E2)
 have V5:=Aw W3 E2
 have v5:=Av (cs:=[.string ⟨#[115,101,97]⟩,vI 0,J0,I0,H0,.bool true]) (xs:=(([(⟨⟨#[115,101,97]⟩,(0:Int),A0,B0,C0,true⟩:TUnit)]:List TUnit):List TUnit)) t2 L (Ax (cs:=[.string ⟨#[115,101,97]⟩,vI 0,J0,I0,H0,.bool true]) (ds:=[]) (mk_TUnit ⟨#[115,101,97]⟩ (0:Int) A0 R5 B0 U5 C0 V5 true) (AC _ _))
 obtain ⟨x8,J7,h⟩:=bi h
 have G3:=Tt R4 (Tt C2 F3)
 have W5:=Ap C3 G3
 refine RD.one (i:=13) (rk b0) (BD (m' :=16383) (sk b0) rfl rfl .plain rfl (Bc (α:=TUnit) (ys:=([(⟨⟨#[115,101,97]⟩,(0:Int),A0,B0,C0,true⟩:TUnit)]:List TUnit)) J7 t2 (fun _ _=>(.tl (.tl .hd))) el36 rfl rfl W5 (Src.row (α:=TUnit) t2 .hd v5)) (fun V2 F9 ⟨j4,u2,U4,x5⟩=>?_))
 refine Ai 14 32767 b0 rfl y1 (fun _=>Br 3 rfl) rfl<|RD.nw 15 65535 b0 rfl rfl .plain (BH (j:=3) (old:=[vI (((a0.fe % (3:UInt8)).toNat:Nat):Int),vI (((a0.fc % (4:UInt8)).toNat:Nat):Int),vI (((a0.fh % (3:UInt8)).toNat:Nat):Int),c0]) (news:=[V2]) (new' :=[vI (((a0.fe % (3:UInt8)).toNat:Nat):Int),vI (((a0.fc % (4:UInt8)).toNat:Nat):Int),vI (((a0.fh % (3:UInt8)).toNat:Nat):Int),V2]) u2 (.tl (.tl (.tl .hd))) rfl rfl rfl (St.c1 (α:=TUnit) u2 (.tl (.tl .hd))) rfl rfl (o1 (St.o1 (α:=TUnit) u2 (.tl (.tl .hd)))) rfl) (fun G9 u4 s3=>?_)
 refine AX (dk b0)<|Aq<|Al<|Ab rfl<|Ac (AT (i:=z1) (j:=1) rfl rfl (by omega))<|Af rfl<|Aa ?_
 obtain ⟨v4,t3⟩:=Ay u4 (.one (.tl .hd) (.one (.tl .hd) (.one (.tl .hd) (.one (.tl .hd) (.one (.tl .hd) .done)))))
 have X5:=Ap x5 (Tt s3 t3)
 have R6:=Tt G3 (Tt U4 (Tt s3 t3))
 exact q4 (z1 + 1,x8,V2,j4) _ _ ⟨rfl,rfl,rfl,rfl,trivial⟩ ⟨v4,(Tt Q4 R6),X5⟩ h
 intro H1
 refine RD.each [4,7,10] (rk b0) ⟨?_,?_,?_,trivial⟩
 refine RO.new (m' :=895) (sk b0) rfl .plain rfl (Does.mk (α:=Int) u1 Z0 el32 rfl) (fun d2 g1 D0 X0=>?_)
 have q1:=Av (cs:=(List.replicate (((a0.fe % (3:UInt8)).toNat:Nat):Int).toNat [vI 0]).flatten) (xs:=A0) D0 L (Cells.mk u1 rfl)
 refine RD.each [7,10] (rk b0) ⟨?_,?_,trivial⟩
 refine RO.new (m' :=1023) (sk b0) rfl .plain rfl (Does.mk (α:=Int) v1 D0 el32 rfl) (fun g2 j1 E0 U0=>?_)
 have s1:=Av (cs:=(List.replicate (((a0.fc % (4:UInt8)).toNat:Nat):Int).toNat [vI 0]).flatten) (xs:=B0) E0 L (Cells.mk v1 rfl)
 refine RD.nu 10 2047 b0 rfl .plain rfl (Does.mk (α:=Int) x1 E0 el32 rfl) (fun j2 k1 F0 V0=>?_)
 have t1:=Av (cs:=(List.replicate (((a0.fh % (3:UInt8)).toNat:Nat):Int).toNat [vI 0]).flatten) (xs:=C0) F0 L (Cells.mk x1 rfl)
 have Y5:=Ap s1 V0
 have Z5:=Ap q1 (Tt U0 V0)
 have U6:=Tt X0 (Tt U0 V0)
 exact H1 ((.slice (some ⟨k1,0,none⟩) (((a0.fh % (3:UInt8)).toNat:Nat):Int).toNat (((a0.fh % (3:UInt8)).toNat:Nat):Int).toNat),(List.replicate (((a0.fh % (3:UInt8)).toNat:Nat):Int).toNat [vI 0]).flatten,(.slice (some ⟨j1,0,none⟩) (((a0.fc % (4:UInt8)).toNat:Nat):Int).toNat (((a0.fc % (4:UInt8)).toNat:Nat):Int).toNat),(List.replicate (((a0.fc % (4:UInt8)).toNat:Nat):Int).toNat [vI 0]).flatten,(.slice (some ⟨g1,0,none⟩) (((a0.fe % (3:UInt8)).toNat:Nat):Int).toNat (((a0.fe % (3:UInt8)).toNat:Nat):Int).toNat),(List.replicate (((a0.fe % (3:UInt8)).toNat:Nat):Int).toNat [vI 0]).flatten) _ _ ⟨rfl,rfl,rfl,rfl,rfl,rfl,rfl,rfl,trivial⟩ ⟨F0,U6,t1,Y5,Z5⟩
 refine RO.new (m' :=1919) (sk b0) rfl .plain rfl (Does.mk (α:=Int) x1 D0 el32 rfl) (fun j2 k1 F0 V0=>?_)
 have t1:=Av (cs:=(List.replicate (((a0.fh % (3:UInt8)).toNat:Nat):Int).toNat [vI 0]).flatten) (xs:=C0) F0 L (Cells.mk x1 rfl)
 refine RD.nu 7 2047 b0 rfl .plain rfl (Does.mk (α:=Int) v1 F0 el32 rfl) (fun g2 j1 E0 U0=>?_)
 have s1:=Av (cs:=(List.replicate (((a0.fc % (4:UInt8)).toNat:Nat):Int).toNat [vI 0]).flatten) (xs:=B0) E0 L (Cells.mk v1 rfl)
 obtain ⟨x4,F2⟩:=Ay E0 (.one (.tl .hd) (.one .hd (.one .hd (.one .hd (.one .hd (.one .hd (.one .hd (.one .hd .done))))))))
 have b6:=Ap t1 (Tt U0 F2)
 have c6:=Ap s1 F2
 have H3:=Tt V0 (Tt U0 F2)
 have d6:=Ap q1 H3
 exact H1 ((.slice (some ⟨k1,0,none⟩) (((a0.fh % (3:UInt8)).toNat:Nat):Int).toNat (((a0.fh % (3:UInt8)).toNat:Nat):Int).toNat),(List.replicate (((a0.fh % (3:UInt8)).toNat:Nat):Int).toNat [vI 0]).flatten,(.slice (some ⟨j1,0,none⟩) (((a0.fc % (4:UInt8)).toNat:Nat):Int).toNat (((a0.fc % (4:UInt8)).toNat:Nat):Int).toNat),(List.replicate (((a0.fc % (4:UInt8)).toNat:Nat):Int).toNat [vI 0]).flatten,(.slice (some ⟨g1,0,none⟩) (((a0.fe % (3:UInt8)).toNat:Nat):Int).toNat (((a0.fe % (3:UInt8)).toNat:Nat):Int).toNat),(List.replicate (((a0.fe % (3:UInt8)).toNat:Nat):Int).toNat [vI 0]).flatten) _ _ ⟨rfl,rfl,rfl,rfl,rfl,rfl,rfl,rfl,trivial⟩ ⟨x4,(Tt X0 H3),b6,c6,d6⟩
 refine RO.new (m' :=1007) (sk b0) rfl .plain rfl (Does.mk (α:=Int) v1 Z0 el32 rfl) (fun g2 j1 E0 U0=>?_)
 have s1:=Av (cs:=(List.replicate (((a0.fc % (4:UInt8)).toNat:Nat):Int).toNat [vI 0]).flatten) (xs:=B0) E0 L (Cells.mk v1 rfl)
 refine RD.each [4,10] (rk b0) ⟨?_,?_,trivial⟩
 refine RO.new (m' :=1023) (sk b0) rfl .plain rfl (Does.mk (α:=Int) u1 E0 el32 rfl) (fun d2 g1 D0 X0=>?_)
 have q1:=Av (cs:=(List.replicate (((a0.fe % (3:UInt8)).toNat:Nat):Int).toNat [vI 0]).flatten) (xs:=A0) D0 L (Cells.mk u1 rfl)
 refine RD.nu 10 2047 b0 rfl .plain rfl (Does.mk (α:=Int) x1 D0 el32 rfl) (fun j2 k1 F0 V0=>?_)
 have t1:=Av (cs:=(List.replicate (((a0.fh % (3:UInt8)).toNat:Nat):Int).toNat [vI 0]).flatten) (xs:=C0) F0 L (Cells.mk x1 rfl)
 obtain ⟨y4,G2⟩:=Ay F0 (.one .hd (.one (.tl .hd) (.one .hd (.one .hd (.one .hd (.one .hd (.one .hd (.one .hd .done))))))))
 have g6:=Ap t1 G2
 have I3:=Tt X0 (Tt V0 G2)
 have j6:=Ap s1 I3
 have k6:=Ap q1 (Tt V0 G2)
 exact H1 ((.slice (some ⟨k1,0,none⟩) (((a0.fh % (3:UInt8)).toNat:Nat):Int).toNat (((a0.fh % (3:UInt8)).toNat:Nat):Int).toNat),(List.replicate (((a0.fh % (3:UInt8)).toNat:Nat):Int).toNat [vI 0]).flatten,(.slice (some ⟨j1,0,none⟩) (((a0.fc % (4:UInt8)).toNat:Nat):Int).toNat (((a0.fc % (4:UInt8)).toNat:Nat):Int).toNat),(List.replicate (((a0.fc % (4:UInt8)).toNat:Nat):Int).toNat [vI 0]).flatten,(.slice (some ⟨g1,0,none⟩) (((a0.fe % (3:UInt8)).toNat:Nat):Int).toNat (((a0.fe % (3:UInt8)).toNat:Nat):Int).toNat),(List.replicate (((a0.fe % (3:UInt8)).toNat:Nat):Int).toNat [vI 0]).flatten) _ _ ⟨rfl,rfl,rfl,rfl,rfl,rfl,rfl,rfl,trivial⟩ ⟨y4,(Tt U0 I3),g6,j6,k6⟩
 refine RO.new (m' :=2031) (sk b0) rfl .plain rfl (Does.mk (α:=Int) x1 E0 el32 rfl) (fun j2 k1 F0 V0=>?_)
 have t1:=Av (cs:=(List.replicate (((a0.fh % (3:UInt8)).toNat:Nat):Int).toNat [vI 0]).flatten) (xs:=C0) F0 L (Cells.mk x1 rfl)
 refine RD.nu 4 2047 b0 rfl .plain rfl (Does.mk (α:=Int) u1 F0 el32 rfl) (fun d2 g1 D0 X0=>?_)
 have q1:=Av (cs:=(List.replicate (((a0.fe % (3:UInt8)).toNat:Nat):Int).toNat [vI 0]).flatten) (xs:=A0) D0 L (Cells.mk u1 rfl)
 obtain ⟨z4,H2⟩:=Ay D0 (.one (.tl .hd) (.one (.tl .hd) (.one .hd (.one .hd (.one .hd (.one .hd (.one .hd (.one .hd .done))))))))
 have p6:=Ap t1 (Tt X0 H2)
 have J3:=Tt V0 (Tt X0 H2)
 have q6:=Ap s1 J3
 have s6:=Ap q1 H2
 exact H1 ((.slice (some ⟨k1,0,none⟩) (((a0.fh % (3:UInt8)).toNat:Nat):Int).toNat (((a0.fh % (3:UInt8)).toNat:Nat):Int).toNat),(List.replicate (((a0.fh % (3:UInt8)).toNat:Nat):Int).toNat [vI 0]).flatten,(.slice (some ⟨j1,0,none⟩) (((a0.fc % (4:UInt8)).toNat:Nat):Int).toNat (((a0.fc % (4:UInt8)).toNat:Nat):Int).toNat),(List.replicate (((a0.fc % (4:UInt8)).toNat:Nat):Int).toNat [vI 0]).flatten,(.slice (some ⟨g1,0,none⟩) (((a0.fe % (3:UInt8)).toNat:Nat):Int).toNat (((a0.fe % (3:UInt8)).toNat:Nat):Int).toNat),(List.replicate (((a0.fe % (3:UInt8)).toNat:Nat):Int).toNat [vI 0]).flatten) _ _ ⟨rfl,rfl,rfl,rfl,rfl,rfl,rfl,rfl,trivial⟩ ⟨z4,(Tt U0 J3),p6,q6,s6⟩
 refine RO.new (m' :=1903) (sk b0) rfl .plain rfl (Does.mk (α:=Int) x1 Z0 el32 rfl) (fun j2 k1 F0 V0=>?_)
 have t1:=Av (cs:=(List.replicate (((a0.fh % (3:UInt8)).toNat:Nat):Int).toNat [vI 0]).flatten) (xs:=C0) F0 L (Cells.mk x1 rfl)
 refine RD.each [4,7] (rk b0) ⟨?_,?_,trivial⟩
 refine RO.new (m' :=1919) (sk b0) rfl .plain rfl (Does.mk (α:=Int) u1 F0 el32 rfl) (fun d2 g1 D0 X0=>?_)
 have q1:=Av (cs:=(List.replicate (((a0.fe % (3:UInt8)).toNat:Nat):Int).toNat [vI 0]).flatten) (xs:=A0) D0 L (Cells.mk u1 rfl)
 refine RD.nu 7 2047 b0 rfl .plain rfl (Does.mk (α:=Int) v1 D0 el32 rfl) (fun g2 j1 E0 U0=>?_)
 have s1:=Av (cs:=(List.replicate (((a0.fc % (4:UInt8)).toNat:Nat):Int).toNat [vI 0]).flatten) (xs:=B0) E0 L (Cells.mk v1 rfl)
 obtain ⟨A4,I2⟩:=Ay E0 (.one (.tl (.tl .hd)) (.one .hd (.one .hd (.one .hd (.one .hd (.one .hd (.one .hd (.one .hd .done))))))))
 have K3:=Tt X0 (Tt U0 I2)
 have t6:=Ap t1 K3
 have u6:=Ap s1 I2
 have v6:=Ap q1 (Tt U0 I2)
 exact H1 ((.slice (some ⟨k1,0,none⟩) (((a0.fh % (3:UInt8)).toNat:Nat):Int).toNat (((a0.fh % (3:UInt8)).toNat:Nat):Int).toNat),(List.replicate (((a0.fh % (3:UInt8)).toNat:Nat):Int).toNat [vI 0]).flatten,(.slice (some ⟨j1,0,none⟩) (((a0.fc % (4:UInt8)).toNat:Nat):Int).toNat (((a0.fc % (4:UInt8)).toNat:Nat):Int).toNat),(List.replicate (((a0.fc % (4:UInt8)).toNat:Nat):Int).toNat [vI 0]).flatten,(.slice (some ⟨g1,0,none⟩) (((a0.fe % (3:UInt8)).toNat:Nat):Int).toNat (((a0.fe % (3:UInt8)).toNat:Nat):Int).toNat),(List.replicate (((a0.fe % (3:UInt8)).toNat:Nat):Int).toNat [vI 0]).flatten) _ _ ⟨rfl,rfl,rfl,rfl,rfl,rfl,rfl,rfl,trivial⟩ ⟨A4,(Tt V0 K3),t6,u6,v6⟩
 refine RO.new (m' :=2031) (sk b0) rfl .plain rfl (Does.mk (α:=Int) v1 F0 el32 rfl) (fun g2 j1 E0 U0=>?_)
 have s1:=Av (cs:=(List.replicate (((a0.fc % (4:UInt8)).toNat:Nat):Int).toNat [vI 0]).flatten) (xs:=B0) E0 L (Cells.mk v1 rfl)
 refine RD.nu 4 2047 b0 rfl .plain rfl (Does.mk (α:=Int) u1 E0 el32 rfl) (fun d2 g1 D0 X0=>?_)
 have q1:=Av (cs:=(List.replicate (((a0.fe % (3:UInt8)).toNat:Nat):Int).toNat [vI 0]).flatten) (xs:=A0) D0 L (Cells.mk u1 rfl)
 obtain ⟨B4,J2⟩:=Ay D0 (.one (.tl (.tl .hd)) (.one (.tl .hd) (.one .hd (.one .hd (.one .hd (.one .hd (.one .hd (.one .hd .done))))))))
 have M3:=Tt U0 (Tt X0 J2)
 have x6:=Ap t1 M3
 have y6:=Ap s1 (Tt X0 J2)
 have z6:=Ap q1 J2
 exact H1 ((.slice (some ⟨k1,0,none⟩) (((a0.fh % (3:UInt8)).toNat:Nat):Int).toNat (((a0.fh % (3:UInt8)).toNat:Nat):Int).toNat),(List.replicate (((a0.fh % (3:UInt8)).toNat:Nat):Int).toNat [vI 0]).flatten,(.slice (some ⟨j1,0,none⟩) (((a0.fc % (4:UInt8)).toNat:Nat):Int).toNat (((a0.fc % (4:UInt8)).toNat:Nat):Int).toNat),(List.replicate (((a0.fc % (4:UInt8)).toNat:Nat):Int).toNat [vI 0]).flatten,(.slice (some ⟨g1,0,none⟩) (((a0.fe % (3:UInt8)).toNat:Nat):Int).toNat (((a0.fe % (3:UInt8)).toNat:Nat):Int).toNat),(List.replicate (((a0.fe % (3:UInt8)).toNat:Nat):Int).toNat [vI 0]).flatten) _ _ ⟨rfl,rfl,rfl,rfl,rfl,rfl,rfl,rfl,trivial⟩ ⟨B4,(Tt V0 M3),x6,y6,z6⟩
 refine AR rfl ?_
 have h:=H5 _ h
 try dsimp only at h
 refine Ae<|Ac (AE rfl (Z0.memA (.tl (.tl .hd))))<|Bu [vI (((a0.fe % (3:UInt8)).toNat:Nat):Int),vI (((a0.fc % (4:UInt8)).toNat:Nat):Int),vI (((a0.fh % (3:UInt8)).toNat:Nat):Int),c0] Z0 (.tl (.tl (.tl .hd))) (o4 rfl rfl rfl (St.o1 (α:=TUnit) Z0 (.tl .hd))) (fun H9 c3 V4=>?_)
 refine Aa<|Ao rfl<|AB (u:=.agg #[vI (((a0.fe % (3:UInt8)).toNat:Nat):Int),vI (((a0.fc % (4:UInt8)).toNat:Nat):Int),vI (((a0.fh % (3:UInt8)).toNat:Nat):Int),c0]) hb0 Tryz.func12 rfl (.cons (.many (cs:=[vI (((a0.fe % (3:UInt8)).toNat:Nat):Int),vI (((a0.fc % (4:UInt8)).toNat:Nat):Int),vI (((a0.fh % (3:UInt8)).toNat:Nat):Int),c0]) (by kernel_rfl) rfl (c3.memA (.tl (.tl (.tl .hd))))) .nil) rfl ?_
 obtain ⟨d3,W4⟩:=Ay c3 (.one (.tl .hd) .done)
 cases h
 have A6:=Ap C3 (Tt V4 W4)
 exact ⟨d3.ag,fun w9 hw9=>⟨c0,P0,rfl,d3.agree hw9,Cells.keep0 A6 hw9⟩⟩
theorem body12:bodyB Tryz.prog 12 = true:=by kernel_rfl
def wardmoteref22_Draft_Full_p (n:Nat) (a0:TDraft26) (a1:Int):Option TRoll:=
  (wardmoteref22_Draft_Roll_p n (⟨2,3,2,a0.fo,a0.fF⟩:TDraft26) a1).bind fun b0=>some b0
theorem wardmoteref22_Draft_Full_c (n:Nat) (L:List Nat) (w:World) (hL:∀ b ∈ L,b < w.heap.size) (a0:TDraft26) {v0_4:Value} (h0_4:Rep.R w L [v0_4] a0.fF) (a1:Int)  {r:TRoll} (h:wardmoteref22_Draft_Full_p n a0 a1 = some r) :
    Calls Tryz.prog 11 #[.agg #[.int .u8 (a0.fe.toNat:Int),.int .u8 (a0.fc.toNat:Int),.int .u8 (a0.fh.toNat:Int),.int .u8 (a0.fo.toNat:Int),v0_4],vI a1] w (Gives w fun w' u=>∃ (v0_3:Value) (cs0_3:List Value),u = .agg #[vI r.fe,vI r.fc,vI r.fh,v0_3]∧St w w' (rowsOf w.heap.size [(61,Rep.size TUnit,v0_3,r.fm.length,cs0_3)])∧Cells w' (bl (rowsOf w.heap.size [(61,Rep.size TUnit,v0_3,r.fm.length,cs0_3)]) ++ L) cs0_3 (r.fm:List TUnit)):=by
 unfold wardmoteref22_Draft_Full_p at h
 have hS0:=AD w
 refine AI Tryz.func11 rfl rfl rfl (fun _ cs0 hb0=>?_)
 refine Ae<|Az .plain rfl (AK hS0 rfl rfl) (fun U0 F0 t0 H0=>?_)
 refine Az .plain rfl (Ba [vI 0,vI 0,vI 0,vN] t0) (fun V0 G0 u0 I0=>?_)
 refine Aa<|Ae<|Bf 0 rfl<|RG.now .plain (BH (j:=0) (old:=[.int .u8 (a0.fe.toNat:Int),.int .u8 (a0.fc.toNat:Int),.int .u8 (a0.fh.toNat:Int),.int .u8 (a0.fo.toNat:Int),v0_4]) (news:=[.int .u8 2]) (new' :=[.int .u8 2,.int .u8 (a0.fc.toNat:Int),.int .u8 (a0.fh.toNat:Int),.int .u8 (a0.fo.toNat:Int),v0_4]) u0 (.tl .hd) rfl rfl rfl rfl rfl rfl (o1 rfl) rfl) (fun W0 v0 J0=>?_)
 refine Bf 1 rfl<|RG.now .plain (BH (j:=1) (old:=[.int .u8 2,.int .u8 (a0.fc.toNat:Int),.int .u8 (a0.fh.toNat:Int),.int .u8 (a0.fo.toNat:Int),v0_4]) (news:=[.int .u8 3]) (new' :=[.int .u8 2,.int .u8 3,.int .u8 (a0.fh.toNat:Int),.int .u8 (a0.fo.toNat:Int),v0_4]) v0 (.tl .hd) rfl rfl rfl rfl rfl rfl (o1 rfl) rfl) (fun X0 x0 K0=>?_)
 refine Bf 2 rfl<|RG.now .plain (BH (j:=2) (old:=[.int .u8 2,.int .u8 3,.int .u8 (a0.fh.toNat:Int),.int .u8 (a0.fo.toNat:Int),v0_4]) (news:=[.int .u8 2]) (new' :=[.int .u8 2,.int .u8 3,.int .u8 2,.int .u8 (a0.fo.toNat:Int),v0_4]) x0 (.tl .hd) rfl rfl rfl rfl rfl rfl (o1 rfl) rfl) (fun Y0 d0 M0=>?_)
 refine Aa<|Ae<|Ac (AE rfl (d0.memA (.tl .hd)))<|Ab rfl ?_
 obtain ⟨c0,E0,h⟩:=bi h
 refine AQ (fst:=[]) (cap:=[]) .plain body12 rfl (e2 rfl rfl) (fun w9 hw9=>own_gives (b0:=w.heap.size) (wardmoteref22_Draft_Roll_c n _ w9 (d0.hL hL hw9) (⟨2,3,2,a0.fo,a0.fF⟩:TDraft26) (d0.km h0_4 hw9) a1 E0) hw9 (Nat.le_trans d0.ag.size hw9.size)) rfl (fun Z0 R0 Q0 ⟨g0,k0,D0,s0,A0⟩=>?_)
 subst D0
 have j0:=own_push d0 s0
 have P0:=own_tr d0 s0
 have B0:=Av (cs:=k0) (xs:=(c0.fm:List TUnit)) j0 L (own_cells A0)
 refine Bu [vI c0.fe,vI c0.fc,vI c0.fh,g0] j0 (.tl .hd) (o4 rfl rfl rfl (St.o1 (α:=TUnit) j0 .hd)) (fun b1 p0 y0=>?_)
 refine Aa<|Ao rfl<|AB (u:=.agg #[vI c0.fe,vI c0.fc,vI c0.fh,g0]) hb0 Tryz.func11 rfl (.cons (.many (cs:=[vI c0.fe,vI c0.fc,vI c0.fh,g0]) (by kernel_rfl) rfl (p0.memA (.tl .hd))) .nil) rfl ?_
 obtain ⟨q0,z0⟩:=Ay p0 (.one .hd .done)
 cases h
 have C0:=Ap B0 (Tt y0 z0)
 exact ⟨q0.ag,fun w9 hw9=>⟨g0,k0,rfl,q0.agree hw9,Cells.keep0 C0 hw9⟩⟩
structure TBend where
  fB:UInt8
  fAt:UInt8
  fN:Int
  deriving DecidableEq
instance:Rep TBend:=Rep.via (β:=UInt8 × UInt8 × Int) fun x=>(x.fB,x.fAt,x.fN)
def tb13_5:List (Nat × Nat × Nat):=[(0,262144,32),(1,524288,262144),(0,1048576,4),(4,2097152,1048576),(8,4194304,2097152),(0,8388608,32),(32,16777216,8388608),(64,33554432,16777216),(144,67108864,37748736),(258,134217728,67633152),(1023,64,134217728)]
def tb13_11:List (Nat × Nat × Nat):=[(0,70368744177664,64),(0,140737488355328,4),(2,281474976710656,140737488355328),(4,562949953421312,281474976710656),(0,1125899906842624,64),(16,2251799813685248,1125899906842624),(32,4503599627370496,2251799813685248),(64,9007199254740992,4503599627370496),(136,18014398509481984,9570149208162304),(511,36028797018963968,70368744177664),(1023,72057594037927936,36028797018963968),(1535,0,90071992547409920)]
def tb13_13:List (Nat × Nat × Nat):=[(0,576460752303423488,64),(0,1152921504606846976,0),(0,2305843009213693952,64),(4,4611686018427387904,2305843009213693952),(8,9223372036854775808,4611686018427387904),(16,18446744073709551616,9223372036854775808),(34,36893488147419103232,19599665578316398592),(0,73786976294838206464,4),(128,147573952589676412928,73786976294838206464),(256,295147905179352825856,147573952589676412928),(576,590295810358705651712,332041393326771929088),(2047,1180591620717411303424,576460752303423488),(4095,2361183241434822606848,1180591620717411303424),(6143,0,2951479051793528258560)]
def wardmoteref22_Bend_Of_p (_n:Nat) (a0:TBend) (a1:TRoll):Option TRoll:=
  (app ([]:List TUnit) a1.fm).bind fun c0=>(if c0.length = 0 then some (⟨a1.fe,a1.fc,a1.fh,c0⟩:TRoll) else (remI ((a0.fAt.toNat:Nat):Int) ((c0.length:Nat):Int)).bind fun d0=>(idx c0 d0).bind fun b0=>(if ((a0.fB % (7:UInt8)).toNat) = 0 then (put c0 ((d0.toNat:Nat):Int) (⟨b0.ft,a0.fN,b0.fe,b0.fC,b0.fw,b0.fo⟩:TUnit)).bind fun j0=>some (⟨a1.fe,a1.fc,a1.fh,j0⟩:TRoll) else (if ((a0.fB % (7:UInt8)).toNat) = 1 then (app ([a0.fN]:List Int) b0.fC).bind fun p0=>(put c0 ((d0.toNat:Nat):Int) (⟨b0.ft,b0.fp,b0.fe,p0,b0.fw,b0.fo⟩:TUnit)).bind fun q0=>some (⟨a1.fe,a1.fc,a1.fh,q0⟩:TRoll) else (if ((a0.fB % (7:UInt8)).toNat) = 2 then (app ([]:List Int) b0.fe).bind fun k0=>(app k0 ([a0.fN]:List Int)).bind fun s0=>(put c0 ((d0.toNat:Nat):Int) (⟨b0.ft,b0.fp,s0,b0.fC,b0.fw,b0.fo⟩:TUnit)).bind fun t0=>some (⟨a1.fe,a1.fc,a1.fh,t0⟩:TRoll) else (if ((a0.fB % (7:UInt8)).toNat) = 3 then (put c0 ((d0.toNat:Nat):Int) (⟨b0.ft,b0.fp,b0.fe,b0.fC,b0.fw,(!b0.fo)⟩:TUnit)).bind fun u0=>some (⟨a1.fe,a1.fc,a1.fh,u0⟩:TRoll) else (if ((a0.fB % (7:UInt8)).toNat) = 4 then (c0[0]?).bind fun g0=>(put c0 ((d0.toNat:Nat):Int) (⟨g0.ft,b0.fp,b0.fe,b0.fC,b0.fw,b0.fo⟩:TUnit)).bind fun v0=>some (⟨a1.fe,a1.fc,a1.fh,v0⟩:TRoll) else (if ((a0.fB % (7:UInt8)).toNat) = 5 then some (⟨a1.fe,a1.fc,a0.fN,c0⟩:TRoll) else (put c0 ((d0.toNat:Nat):Int) (⟨b0.ft,b0.fp,b0.fe,b0.fC,([a0.fN]:List Int),b0.fo⟩:TUnit)).bind fun x0=>some (⟨a1.fe,a1.fc,a1.fh,x0⟩:TRoll))))))))
theorem wardmoteref22_Bend_Of_c (n:Nat) (L:List Nat) (w:World) (hL:∀ b ∈ L,b < w.heap.size) (a0:TBend) (a1:TRoll) {v1_3:Value} (h1_3:Rep.R w L [v1_3] a1.fm)  {r:TRoll} (h:wardmoteref22_Bend_Of_p n a0 a1 = some r) :
    Calls Tryz.prog 13 #[.agg #[.int .u8 (a0.fB.toNat:Int),.int .u8 (a0.fAt.toNat:Int),vI a0.fN],.agg #[vI a1.fe,vI a1.fc,vI a1.fh,v1_3]] w (Gives w fun w' u=>∃ v0_3:Value,u = .agg #[vI r.fe,vI r.fc,vI r.fh,v0_3]∧Rep.R w' L [v0_3] r.fm):=by
 unfold wardmoteref22_Bend_Of_p at h
 have hS0:=AD w
 refine AI Tryz.func13 rfl rfl rfl (fun _ cs0 hb0=>?_)
 refine Ae<|Az .plain rfl (AK hS0 rfl rfl) (fun w11 J4 Y4 G01=>?_)
 refine Az .plain rfl (AK Y4 rfl rfl) (fun w16 K4 Z4 J01=>?_)
 refine Az .plain rfl (Ba [vI 0,vI 0,vI 0,vN] Z4) (fun w21 G1 M3 K01=>?_)
 refine Aa<|Ae<|Ac (AE rfl (M3.memA (.tl .hd)))<|Az .plain rfl (Ba [vI 0,vI 0,vI 0,vN] M3) (fun w26 H1 Q3 Z01=>?_)
 have j8:=Bn h1_3 Q3
 refine Bu [vI a1.fe,vI a1.fc,vI a1.fh,v1_3] Q3 .hd (o4 rfl rfl rfl (BI j8)) (fun w31 E5 b02=>?_)
 refine Aa<|Ae<|Az .plain rfl (AF (α:=TUnit) (xs:=([]:List TUnit)) (vs:=[]) (ds' :=[]) rfl E5 el36 rfl evs_nil (by kernel_rfl) rfl) (fun w35 b38 q2 c02=>?_)
 have x6:=Av (cs:=[]) (xs:=(([]:List TUnit):List TUnit)) q2 L (AC _ _)
 refine Bf 3 rfl<|Ac (AJ rfl ((q2.memA (.tl (.tl (.tl .hd)))) 3 _ rfl)) ?_
 obtain ⟨d1,v00,h⟩:=bi h
 have k8:=Bn h1_3 q2
 refine RG.doesL .plain rfl (Bc (α:=TUnit) (ys:=a1.fm) v00 q2 (fun _ _=>.hd) el36 rfl rfl x6 (Src.rep k8)) (fun j0 w42 ⟨J1,U2,d02,K0⟩=>?_)
 refine Bf 3 rfl<|RG.now .plain (BH (j:=3) (old:=[vI a1.fe,vI a1.fc,vI a1.fh,v1_3]) (news:=[j0]) (new' :=[vI a1.fe,vI a1.fc,vI a1.fh,j0]) U2 (.tl .hd) rfl rfl rfl (St.c1 (α:=TUnit) U2 .hd) rfl rfl (o1 (St.o1 (α:=TUnit) U2 .hd)) rfl) (fun w49 q0 J0=>?_)
 refine Aa<|Aj<|Ae<|Bf 3 rfl<|AN rfl ((q0.memA (.tl .hd)) 3 _ rfl) ?_
 have u02:d1.length ≤ 4294967296:=St.rowLe (α:=TUnit) q0 .hd
 obtain ⟨A53,c54,K6⟩:=St.rowV (α:=TUnit) q0 .hd
 refine Ac (FV.lenV Tryz.underlying36 rfl K6)<|Ac (BG (i:=d1.length) (j:=0) rfl rfl)<|Aa<|AM rfl h (fun W4 h=>?_) (fun W4 h=>?_)
 refine Ae<|Ac (AE rfl (q0.memA (.tl .hd)))<|Bu [vI a1.fe,vI a1.fc,vI a1.fh,j0] q0 (.tl (.tl .hd)) (o4 rfl rfl rfl (St.o1 (α:=TUnit) q0 .hd)) (fun w57 V2 Z5=>?_)
 refine Aa<|Ao rfl ?_
 have p8:=Ap K0 (Tt J0 Z5)
 have U9:=AU (α:=TUnit) V2 .hd p8 hL
 have s2:=Bk V2 .hd
 have g02:=Bl V2 .hd
 have V9:=Bm (α:=TUnit) (v:=j0) (xs:=d1) s2 L U9
 refine AB hb0 Tryz.func13 rfl (.cons (.many (cs:=[vI a1.fe,vI a1.fc,vI a1.fh,j0]) (by kernel_rfl) rfl (s2.memA (.tl .hd))) .nil) rfl ?_
 cases h
 exact ⟨s2.ag,fun w9 hw9=>⟨j0,rfl,s2.kd V9 hw9⟩⟩
 refine Am<|Aj<|dt 11 tb13_5 (fun M0 Y0=>?_)
 refine Ai 0 1 M0 rfl Y0 (fun _=>Br 3 rfl) rfl<|AV 1 3 1536 M0 rfl Y0 (AJ rfl ((q0.memA (.tl .hd)) 3 _ rfl)) rfl<|Ai 2 7 M0 rfl Y0 (fun _=>Br 1 rfl) rfl<|AV 3 15 1808 M0 rfl Y0 (AJ rfl ((q0.memA (.tl (.tl (.tl (.tl .hd))))) 1 _ rfl)) rfl ?_
 have J02:=a0.fAt.toNat_lt
 refine Ai 4 31 M0 rfl Y0 (fun _=>FV.convN (i:=a0.fAt.toNat) Tryz.underlying5 Tryz.underlying3 rfl (by omega)) rfl<|Ai 5 63 M0 rfl Y0 (fun _=>Br 3 rfl) rfl<|AV 6 127 1920 M0 rfl Y0 (AJ rfl ((q0.memA (.tl .hd)) 3 _ rfl)) rfl ?_
 obtain ⟨A68,c69,M6⟩:=St.rowV (α:=TUnit) q0 .hd
 refine AV 7 255 1792 M0 rfl Y0 (FV.lenV Tryz.underlying36 rfl M6) rfl ?_
 obtain ⟨q1,b00,h⟩:=bi h
 refine Ai 8 511 M0 rfl Y0 (fun _=>FV.remc (i:=((a0.fAt.toNat:Nat):Int)) (j:=((d1.length:Nat):Int)) rfl rfl b00) rfl ?_
 obtain ⟨c0,d00,h⟩:=bi h
 obtain ⟨Q6,I0⟩:=idx_in d00
 have p1:=Ap K0 J0
 obtain ⟨I4,c76,y3,Y3,C01,X9,t2⟩:=St.nth (α:=TUnit) q0 .hd p1 I0
 obtain ⟨J3,c84,H0⟩:=St.nthOwn (α:=TUnit) q0 .hd Y3
 obtain rfl:I4 = ⟨J3,0,none⟩:=by rw [H0] at y3; cases y3; rfl
 obtain ⟨v86,v87,v88,rfl,g1,Y9,I02⟩:=op_TUnit X9
 refine Ai 9 1023 M0 rfl Y0 (fun _=>AY 6 (q1.toNat) rfl y3 rfl Q6 Y3) rfl<|Ai 10 2047 M0 rfl Y0 (fun _=>Bw rfl) rfl<|AX (dk M0)<|Aj<|Ae<|Bf 0 rfl<|Ac (AJ rfl ((q0.memA (.tl (.tl (.tl (.tl .hd))))) 0 _ rfl))<|Ac (FV.rem8 (a:=a0.fB) (b:=(7:UInt8)) rfl rfl (by decide))<|Aa<|Au<|Ae<|Ac (BG (i:=(a0.fB % (7:UInt8)).toNat) (j:=0) rfl rfl)<|Af rfl<|Aa<|AM rfl h (fun X4 h=>?_) (fun X4 h=>?_)
 refine Al<|Ab rfl<|Bf 2 rfl<|Ac (AJ rfl ((q0.memA (.tl (.tl (.tl (.tl .hd))))) 2 _ rfl))<|Ac (BB rfl)<|Bf 1 rfl ?_
 obtain ⟨c93,P6,t02,D01,Z9,B02,D6⟩:=St.nthAt (α:=TUnit) q0 .hd p1 I0 H0
 obtain ⟨k4,p4,q4,rfl,Q8,R8,U8⟩:=op_TUnit Z9
 obtain ⟨C00,g00,h⟩:=bi h
 refine RG.acts' .plain (Acts.setPart (α:=TUnit) (i:=q1.toNat) (tot:=1) (ds:=[.string c0.ft,vI c0.fp,k4,p4,q4,.bool c0.fo]) (news:=[vI a0.fN]) (full:=[.string c0.ft,vI a0.fN,k4,p4,q4,.bool c0.fo]) g00 q0 P6 (fun _=>.hd) p1 D6 rfl (by kernel_rfl) rfl rfl rfl rfl (mk_TUnit c0.ft a0.fN c0.fe Q8 c0.fC R8 c0.fw U8 c0.fo) (by kernel_rfl) (o1 rfl)) (fun V02 ⟨g01,v2,E01,b6⟩=>?_)
 refine Aa<|Aq<|Ae<|Ac (AE rfl (v2.memA (.tl .hd)))<|Bu [vI a1.fe,vI a1.fc,vI a1.fh,j0] v2 (.tl (.tl .hd)) (o4 rfl rfl rfl (St.o1 (α:=TUnit) v2 .hd)) (fun X02 x2 F5=>?_)
 refine Aa<|Ao rfl ?_
 have R6:=Ap b6 F5
 have V8:=AU (α:=TUnit) x2 .hd R6 hL
 have Z1:=Bk x2 .hd
 have F01:=Bl x2 .hd
 have W8:=Bm (α:=TUnit) (v:=j0) (xs:=C00) Z1 L V8
 refine AB hb0 Tryz.func13 rfl (.cons (.many (cs:=[vI a1.fe,vI a1.fc,vI a1.fh,j0]) (by kernel_rfl) rfl (Z1.memA (.tl .hd))) .nil) rfl ?_
 cases h
 exact ⟨Z1.ag,fun w9 hw9=>⟨j0,rfl,Z1.kd W8 hw9⟩⟩
 refine Ae<|Ac (BG (i:=(a0.fB % (7:UInt8)).toNat) (j:=1) rfl rfl)<|Af rfl<|Aa<|AM rfl h (fun P4 h=>?_) (fun P4 h=>?_)
 refine dt 8 tb13_11 (fun G0 j1=>?_)
 refine Ai 0 1 G0 rfl j1 (fun _=>Ah rfl) rfl<|Ai 1 3 G0 rfl j1 (fun _=>Br 2 rfl) rfl<|AV 2 7 3848 G0 rfl j1 (AJ rfl ((q0.memA (.tl (.tl (.tl (.tl .hd))))) 2 _ rfl)) rfl<|Ai 4 23 G0 rfl j1 (fun _=>Ah rfl) rfl<|Ai 5 55 G0 rfl j1 (fun _=>BB rfl) rfl<|Ai 6 119 G0 rfl j1 (fun _=>Br 3 rfl) rfl<|AV 7 247 3840 G0 rfl j1 (AJ rfl (t2 3 _ rfl)) rfl<|RD.nu 3 255 G0 rfl .plain rfl (AF (α:=Int) (xs:=([a0.fN]:List Int)) (vs:=[vI a0.fN]) (ds' :=[vI a0.fN]) rfl q0 el32 rfl (e1 rfl) (by kernel_rfl) rfl) (fun Y02 K00 K3 R3=>?_)
 have c6:=Av (cs:=[vI a0.fN]) (xs:=(([a0.fN]:List Int):List Int)) K3 L (Ax (cs:=[vI a0.fN]) (ds:=[]) rfl (AC _ _))
 obtain ⟨F4,j00,h⟩:=bi h
 have U6:=Aw Y9 R3
 refine RD.one (i:=8) (rk G0) (BD (m' :=511) (sk G0) rfl rfl .plain rfl (Bc (α:=Int) (ys:=c0.fC) j00 K3 (fun _ _=>.hd) el32 rfl rfl c6 (Src.rep U6)) (fun E3 Z02 ⟨j01,y2,G5,d6⟩=>?_))
 refine Ai 9 1023 G0 rfl j1 (fun _=>BB rfl) rfl<|Ai 10 2047 G0 rfl j1 (fun _=>Br 3 rfl) rfl ?_
 have X8:=AU (α:=Int) y2 .hd d6 hL
 have z2:=Bk y2 .hd
 have H5:=Bl y2 .hd
 have B3:=Bm (α:=Int) (v:=E3) (xs:=F4) z2 L X8
 have q8:=Tt J0 (Tt R3 (Tt G5 H5))
 have Z3:=Ap K0 q8
 obtain ⟨P00,E6,j02,k01,Y8,v02,y6⟩:=St.nthAt (α:=TUnit) z2 .hd Z3 I0 H0
 obtain ⟨s4,x00,t4,rfl,Z8,C02,b9⟩:=op_TUnit Y8
 obtain ⟨D00,k00,h⟩:=bi h
 refine RD.one (i:=11) (rk G0) (RO.acts (m' :=4095) (sk G0) rfl rfl .plain (Acts.setPart (α:=TUnit) (i:=q1.toNat) (tot:=3) (ds:=[.string c0.ft,vI c0.fp,s4,x00,t4,.bool c0.fo]) (news:=[E3]) (full:=[.string c0.ft,vI c0.fp,s4,E3,t4,.bool c0.fo]) k00 z2 E6 (fun _=>.hd) Z3 y6 rfl (by kernel_rfl) rfl rfl rfl (Rep.c1 B3) (mk_TUnit c0.ft c0.fp c0.fe Z8 F4 B3 c0.fw b9 c0.fo) (by kernel_rfl) (o1 (BI B3))) (fun b03 ⟨p01,A2,H01,g6⟩=>?_))
 refine AX (dk G0)<|Aq<|Ae<|Ac (AE rfl (A2.memA (.tl .hd)))<|Bu [vI a1.fe,vI a1.fc,vI a1.fh,j0] A2 (.tl (.tl .hd)) (o4 rfl rfl rfl (St.o1 (α:=TUnit) A2 .hd)) (fun d03 B2 I5=>?_)
 refine Aa<|Ao rfl ?_
 have V6:=Ap g6 I5
 have c9:=AU (α:=TUnit) B2 .hd V6 hL
 have b2:=Bk B2 .hd
 have I01:=Bl B2 .hd
 have d9:=Bm (α:=TUnit) (v:=j0) (xs:=D00) b2 L c9
 refine AB hb0 Tryz.func13 rfl (.cons (.many (cs:=[vI a1.fe,vI a1.fc,vI a1.fh,j0]) (by kernel_rfl) rfl (b2.memA (.tl .hd))) .nil) rfl ?_
 cases h
 exact ⟨b2.ag,fun w9 hw9=>⟨j0,rfl,b2.kd d9 hw9⟩⟩
 refine Ae<|Ac (BG (i:=(a0.fB % (7:UInt8)).toNat) (j:=2) rfl rfl)<|Af rfl<|Aa<|AM rfl h (fun Q4 h=>?_) (fun Q4 h=>?_)
 refine dt 6 tb13_13 (fun b0 b1=>?_)
 refine Ai 0 1 b0 rfl b1 (fun _=>Ah rfl) rfl<|Ai 2 5 b0 rfl b1 (fun _=>Ah rfl) rfl<|Ai 3 13 b0 rfl b1 (fun _=>BB rfl) rfl<|Ai 4 29 b0 rfl b1 (fun _=>Br 2 rfl) rfl<|Ai 7 157 b0 rfl b1 (fun _=>Br 2 rfl) rfl ?_
 obtain ⟨Y1,z0,h⟩:=bi h
 refine RD.meet (α:=Value × (List Value) × Value × (List Value)) (fun ⟨D1,v1,E1,x1⟩=>[(4,vP G1),(5,vP H1),(59,.pointer (some (Addr.add ⟨J3,0,none⟩ (q1.toNat * 6)))),(65,E1),(68,D1)]) (fun ⟨D1,v1,E1,x1⟩ X1=>St w X1 [.row w.heap.size 3 (Rep.size Int) D1 (([a0.fN]:List Int).length) v1,.row w.heap.size 3 (Rep.size Int) E1 Y1.length x1,.row w.heap.size 61 (Rep.size TUnit) j0 d1.length J1,.cells H1 [vI a1.fe,vI a1.fc,vI a1.fh,j0] 38,.cells G1 [vI 0,vI 0,vI 0,vN] 38]∧Tr w49 [.row w.heap.size 61 (Rep.size TUnit) j0 d1.length J1,.cells H1 [vI a1.fe,vI a1.fc,vI a1.fh,j0] 38,.cells G1 [vI 0,vI 0,vI 0,vN] 38,.cells K4 [vI a1.fe,vI a1.fc,vI a1.fh,v1_3] 38,.cells J4 [.int .u8 (a0.fB.toNat:Int),.int .u8 (a0.fAt.toNat:Int),vI a0.fN] 30] X1 [.row w.heap.size 3 (Rep.size Int) D1 (([a0.fN]:List Int).length) v1,.row w.heap.size 3 (Rep.size Int) E1 Y1.length x1,.row w.heap.size 61 (Rep.size TUnit) j0 d1.length J1,.cells H1 [vI a1.fe,vI a1.fc,vI a1.fh,j0] 38,.cells G1 [vI 0,vI 0,vI 0,vN] 38]∧Cells X1 (bl [.row w.heap.size 3 (Rep.size Int) D1 (([a0.fN]:List Int).length) v1,.row w.heap.size 3 (Rep.size Int) E1 Y1.length x1,.row w.heap.size 61 (Rep.size TUnit) j0 d1.length J1,.cells H1 [vI a1.fe,vI a1.fc,vI a1.fh,j0] 38,.cells G1 [vI 0,vI 0,vI 0,vN] 38] ++ L) v1 (([a0.fN]:List Int):List Int)∧Cells X1 (bl [.row w.heap.size 3 (Rep.size Int) D1 (([a0.fN]:List Int).length) v1,.row w.heap.size 3 (Rep.size Int) E1 Y1.length x1,.row w.heap.size 61 (Rep.size TUnit) j0 d1.length J1,.cells H1 [vI a1.fe,vI a1.fc,vI a1.fh,j0] 38,.cells G1 [vI 0,vI 0,vI 0,vN] 38] ++ L) x1 (Y1:List Int)) 4 1023 ?_ ?_
 rintro ⟨D1,v1,E1,x1⟩ X1 ⟨P3,J5,j6,k6⟩
 try dsimp only
 obtain ⟨G4,p00,h⟩:=bi h
 refine RD.one (i:=10) (rk b0) (BD (m' :=2047) (sk b0) rfl rfl .plain rfl (Bc (α:=Int) (ys:=([a0.fN]:List Int)) p00 P3 (fun _ _=>(.tl .hd)) el32 rfl rfl k6 (Src.row (α:=Int) P3 .hd j6)) (fun F3 j03 ⟨q01,C2,K5,p6⟩=>?_))
 refine Ai 11 4095 b0 rfl b1 (fun _=>BB rfl) rfl<|Ai 12 8191 b0 rfl b1 (fun _=>Br 2 rfl) rfl ?_
 have g9:=AU (α:=Int) C2 (.tl .hd) p6 hL
 have D2:=Bk C2 (.tl .hd)
 have M5:=Bl C2 (.tl .hd)
 have C3:=Bm (α:=Int) (v:=F3) (xs:=G4) D2 L g9
 have s8:=Tt J0 (Tt J5 (Tt K5 M5))
 have b4:=Ap K0 s8
 obtain ⟨Q00,F6,k02,s01,j9,x02,z6⟩:=St.nthAt (α:=TUnit) D2 (.tl .hd) b4 I0 H0
 obtain ⟨y00,u4,v4,rfl,D02,k9,p9⟩:=op_TUnit j9
 obtain ⟨E00,q00,h⟩:=bi h
 refine RD.one (i:=13) (rk b0) (RO.acts (m' :=16383) (sk b0) rfl rfl .plain (Acts.setPart (α:=TUnit) (i:=q1.toNat) (tot:=2) (ds:=[.string c0.ft,vI c0.fp,y00,u4,v4,.bool c0.fo]) (news:=[F3]) (full:=[.string c0.ft,vI c0.fp,F3,u4,v4,.bool c0.fo]) q00 D2 F6 (fun _=>(.tl .hd)) b4 z6 rfl (by kernel_rfl) rfl rfl rfl (Rep.c1 C3) (mk_TUnit c0.ft c0.fp G4 C3 c0.fC k9 c0.fw p9 c0.fo) (by kernel_rfl) (o1 (BI C3))) (fun k03 ⟨t01,E2,M01,q6⟩=>?_))
 refine AX (dk b0)<|Aq<|Ae<|Ac (AE rfl (E2.memA (.tl (.tl .hd))))<|Bu [vI a1.fe,vI a1.fc,vI a1.fh,j0] E2 (.tl (.tl (.tl .hd))) (o4 rfl rfl rfl (St.o1 (α:=TUnit) E2 (.tl .hd))) (fun p03 F2 P5=>?_)
 refine Aa<|Ao rfl ?_
 have W6:=Ap q6 P5
 have q9:=AU (α:=TUnit) F2 (.tl .hd) W6 hL
 have c2:=Bk F2 (.tl .hd)
 have P01:=Bl F2 (.tl .hd)
 have s9:=Bm (α:=TUnit) (v:=j0) (xs:=E00) c2 L q9
 refine AB hb0 Tryz.func13 rfl (.cons (.many (cs:=[vI a1.fe,vI a1.fc,vI a1.fh,j0]) (by kernel_rfl) rfl (c2.memA (.tl (.tl .hd)))) .nil) rfl ?_
 cases h
 exact ⟨c2.ag,fun w9 hw9=>⟨j0,rfl,c2.kd s9 hw9⟩⟩
 intro x0
 refine RD.each [1,5,8] (rk b0) ⟨?_,?_,?_,trivial⟩
 refine RO.new (m' :=159) (sk b0) rfl .plain rfl (AF (α:=Int) (xs:=([]:List Int)) (vs:=[]) (ds' :=[]) rfl q0 el32 rfl evs_nil (by kernel_rfl) rfl) (fun F1 t1 p0 k0=>?_)
 have v0:=Av (cs:=[]) (xs:=(([]:List Int):List Int)) p0 L (AC _ _)
 refine RD.each [5,8] (rk b0) ⟨?_,?_,trivial⟩
 have A1:=Ap K0 (Tt J0 k0)
 obtain ⟨I1,P1,Q1,K1,W0,V0,M1⟩:=St.nthAt (α:=TUnit) p0 (.tl .hd) A1 I0 H0
 obtain ⟨G3,U1,V1,rfl,X0,B1,R1⟩:=op_TUnit W0
 refine RO.val (m' :=191) (sk b0) rfl .plain rfl (AJ rfl (V0 2 _ rfl))<|RD.each [6,8] (rk b0) ⟨?_,?_,trivial⟩
 refine BD (m' :=255) (sk b0) rfl rfl .plain rfl (Bc (α:=Int) (ys:=c0.fe) z0 p0 (fun _ _=>.hd) el32 rfl rfl v0 (Src.rep X0)) (fun C1 H3 ⟨u1,k1,y1,z1⟩=>?_)
 refine RD.one (i:=8) (rk b0) (RO.val (m' :=511) (sk b0) rfl .plain rfl (AJ rfl ((k1.memA (.tl (.tl (.tl (.tl (.tl .hd)))))) 2 _ rfl)) ?_)
 refine RD.nu 9 1023 b0 rfl .plain rfl (AF (α:=Int) (xs:=([a0.fN]:List Int)) (vs:=[vI a0.fN]) (ds' :=[vI a0.fN]) rfl k1 el32 rfl (e1 rfl) (by kernel_rfl) rfl) (fun B0 s0 g0 d0=>?_)
 have t0:=Av (cs:=[vI a0.fN]) (xs:=(([a0.fN]:List Int):List Int)) g0 L (Ax (cs:=[vI a0.fN]) (ds:=[]) rfl (AC _ _))
 obtain ⟨b5,W2⟩:=Ay g0 (.one .hd (.one .hd (.one .hd (.one .hd (.one .hd .done)))))
 have X6:=Ap t0 W2
 have Y6:=Ap z1 (Tt d0 W2)
 have t8:=Tt k0 (Tt y1 (Tt d0 W2))
 exact x0 ((vS s0 1),[vI a0.fN],C1,u1) _ _ ⟨rfl,rfl,rfl,rfl,rfl,trivial⟩ ⟨b5,t8,X6,Y6⟩
 refine RO.val (m' :=447) (sk b0) rfl .plain rfl (AJ rfl ((p0.memA (.tl (.tl (.tl (.tl (.tl .hd)))))) 2 _ rfl))<|RD.each [6,9] (rk b0) ⟨?_,?_,trivial⟩
 refine BD (m' :=511) (sk b0) rfl rfl .plain rfl (Bc (α:=Int) (ys:=c0.fe) z0 p0 (fun _ _=>.hd) el32 rfl rfl v0 (Src.rep X0)) (fun C1 H3 ⟨u1,k1,y1,z1⟩=>?_)
 refine RD.nu 9 1023 b0 rfl .plain rfl (AF (α:=Int) (xs:=([a0.fN]:List Int)) (vs:=[vI a0.fN]) (ds' :=[vI a0.fN]) rfl k1 el32 rfl (e1 rfl) (by kernel_rfl) rfl) (fun B0 s0 g0 d0=>?_)
 have t0:=Av (cs:=[vI a0.fN]) (xs:=(([a0.fN]:List Int):List Int)) g0 L (Ax (cs:=[vI a0.fN]) (ds:=[]) rfl (AC _ _))
 obtain ⟨c5,X2⟩:=Ay g0 (.one .hd (.one .hd (.one .hd (.one .hd (.one .hd .done)))))
 have Z6:=Ap t0 X2
 have b7:=Ap z1 (Tt d0 X2)
 have v8:=Tt k0 (Tt y1 (Tt d0 X2))
 exact x0 ((vS s0 1),[vI a0.fN],C1,u1) _ _ ⟨rfl,rfl,rfl,rfl,rfl,trivial⟩ ⟨c5,v8,Z6,b7⟩
 refine RO.new (m' :=959) (sk b0) rfl .plain rfl (AF (α:=Int) (xs:=([a0.fN]:List Int)) (vs:=[vI a0.fN]) (ds' :=[vI a0.fN]) rfl p0 el32 rfl (e1 rfl) (by kernel_rfl) rfl) (fun B0 s0 g0 d0=>?_)
 have t0:=Av (cs:=[vI a0.fN]) (xs:=(([a0.fN]:List Int):List Int)) g0 L (Ax (cs:=[vI a0.fN]) (ds:=[]) rfl (AC _ _))
 have u0:=Aw X0 d0
 have U0:=Ap v0 d0
 refine RD.one (i:=6) (rk b0) (BD (m' :=1023) (sk b0) rfl rfl .plain rfl (Bc (α:=Int) (ys:=c0.fe) z0 g0 (fun _ _=>(.tl .hd)) el32 rfl rfl U0 (Src.rep u0)) (fun Z0 W1 ⟨P0,Q0,D0,R0⟩=>?_))
 obtain ⟨d5,Y2⟩:=Ay Q0 (.one .hd (.one .hd (.one .hd (.one .hd (.one .hd .done)))))
 have c7:=Ap t0 (Tt D0 Y2)
 have d7:=Ap R0 Y2
 have x8:=Tt k0 (Tt d0 (Tt D0 Y2))
 exact x0 ((vS s0 1),[vI a0.fN],Z0,P0) _ _ ⟨rfl,rfl,rfl,rfl,rfl,trivial⟩ ⟨d5,x8,c7,d7⟩
 refine RO.val (m' :=415) (sk b0) rfl .plain rfl (AJ rfl ((p0.memA (.tl (.tl (.tl (.tl (.tl .hd)))))) 2 _ rfl))<|RD.each [5,9] (rk b0) ⟨?_,?_,trivial⟩
 have A1:=Ap K0 (Tt J0 k0)
 obtain ⟨I1,P1,Q1,K1,W0,V0,M1⟩:=St.nthAt (α:=TUnit) p0 (.tl .hd) A1 I0 H0
 obtain ⟨G3,U1,V1,rfl,X0,B1,R1⟩:=op_TUnit W0
 refine RO.val (m' :=447) (sk b0) rfl .plain rfl (AJ rfl (V0 2 _ rfl))<|RD.each [6,9] (rk b0) ⟨?_,?_,trivial⟩
 refine BD (m' :=511) (sk b0) rfl rfl .plain rfl (Bc (α:=Int) (ys:=c0.fe) z0 p0 (fun _ _=>.hd) el32 rfl rfl v0 (Src.rep X0)) (fun C1 H3 ⟨u1,k1,y1,z1⟩=>?_)
 refine RD.nu 9 1023 b0 rfl .plain rfl (AF (α:=Int) (xs:=([a0.fN]:List Int)) (vs:=[vI a0.fN]) (ds' :=[vI a0.fN]) rfl k1 el32 rfl (e1 rfl) (by kernel_rfl) rfl) (fun B0 s0 g0 d0=>?_)
 have t0:=Av (cs:=[vI a0.fN]) (xs:=(([a0.fN]:List Int):List Int)) g0 L (Ax (cs:=[vI a0.fN]) (ds:=[]) rfl (AC _ _))
 obtain ⟨g5,Z2⟩:=Ay g0 (.one .hd (.one .hd (.one .hd (.one .hd (.one .hd .done)))))
 have g7:=Ap t0 Z2
 have j7:=Ap z1 (Tt d0 Z2)
 have y8:=Tt k0 (Tt y1 (Tt d0 Z2))
 exact x0 ((vS s0 1),[vI a0.fN],C1,u1) _ _ ⟨rfl,rfl,rfl,rfl,rfl,trivial⟩ ⟨g5,y8,g7,j7⟩
 refine RO.new (m' :=959) (sk b0) rfl .plain rfl (AF (α:=Int) (xs:=([a0.fN]:List Int)) (vs:=[vI a0.fN]) (ds' :=[vI a0.fN]) rfl p0 el32 rfl (e1 rfl) (by kernel_rfl) rfl) (fun B0 s0 g0 d0=>?_)
 have t0:=Av (cs:=[vI a0.fN]) (xs:=(([a0.fN]:List Int):List Int)) g0 L (Ax (cs:=[vI a0.fN]) (ds:=[]) rfl (AC _ _))
 have u0:=Aw X0 d0
 have U0:=Ap v0 d0
 refine RD.one (i:=6) (rk b0) (BD (m' :=1023) (sk b0) rfl rfl .plain rfl (Bc (α:=Int) (ys:=c0.fe) z0 g0 (fun _ _=>(.tl .hd)) el32 rfl rfl U0 (Src.rep u0)) (fun Z0 W1 ⟨P0,Q0,D0,R0⟩=>?_))
 obtain ⟨j5,b3⟩:=Ay Q0 (.one .hd (.one .hd (.one .hd (.one .hd (.one .hd .done)))))
 have k7:=Ap t0 (Tt D0 b3)
 have p7:=Ap R0 b3
 have z8:=Tt k0 (Tt d0 (Tt D0 b3))
 exact x0 ((vS s0 1),[vI a0.fN],Z0,P0) _ _ ⟨rfl,rfl,rfl,rfl,rfl,trivial⟩ ⟨j5,z8,k7,p7⟩
 refine RO.new (m' :=927) (sk b0) rfl .plain rfl (AF (α:=Int) (xs:=([a0.fN]:List Int)) (vs:=[vI a0.fN]) (ds' :=[vI a0.fN]) rfl p0 el32 rfl (e1 rfl) (by kernel_rfl) rfl) (fun B0 s0 g0 d0=>?_)
 have t0:=Av (cs:=[vI a0.fN]) (xs:=(([a0.fN]:List Int):List Int)) g0 L (Ax (cs:=[vI a0.fN]) (ds:=[]) rfl (AC _ _))
 have A3:=Tt J0 (Tt k0 d0)
 have z3:=Ap K0 A3
 obtain ⟨I1,P1,Q1,K1,W0,V0,M1⟩:=St.nthAt (α:=TUnit) g0 (.tl (.tl .hd)) z3 I0 H0
 obtain ⟨U1,V1,A00,rfl,B1,R1,W9⟩:=op_TUnit W0
 refine AV 5 959 15424 b0 rfl b1 (AJ rfl (V0 2 _ rfl)) rfl ?_
 have u0:=Ap v0 d0
 refine RD.one (i:=6) (rk b0) (BD (m' :=1023) (sk b0) rfl rfl .plain rfl (Bc (α:=Int) (ys:=c0.fe) z0 g0 (fun _ _=>(.tl .hd)) el32 rfl rfl u0 (Src.rep B1)) (fun F0 s1 ⟨C0,A0,y0,E0⟩=>?_))
 obtain ⟨k5,c3⟩:=Ay A0 (.one .hd (.one .hd (.one .hd (.one .hd (.one .hd .done)))))
 have q7:=Ap t0 (Tt y0 c3)
 have s7:=Ap E0 c3
 have A8:=Tt k0 (Tt d0 (Tt y0 c3))
 exact x0 ((vS s0 1),[vI a0.fN],F0,C0) _ _ ⟨rfl,rfl,rfl,rfl,rfl,trivial⟩ ⟨k5,A8,q7,s7⟩
 refine RO.val (m' :=189) (sk b0) rfl .plain rfl (AJ rfl (t2 2 _ rfl))<|RD.each [1,8] (rk b0) ⟨?_,?_,trivial⟩
 refine RO.new (m' :=191) (sk b0) rfl .plain rfl (AF (α:=Int) (xs:=([]:List Int)) (vs:=[]) (ds' :=[]) rfl q0 el32 rfl evs_nil (by kernel_rfl) rfl) (fun F1 t1 p0 k0=>?_)
 have v0:=Av (cs:=[]) (xs:=(([]:List Int):List Int)) p0 L (AC _ _)
 refine RD.each [6,8] (rk b0) ⟨?_,?_,trivial⟩
 have u0:=Aw g1 k0
 refine BD (m' :=255) (sk b0) rfl rfl .plain rfl (Bc (α:=Int) (ys:=c0.fe) z0 p0 (fun _ _=>.hd) el32 rfl rfl v0 (Src.rep u0)) (fun F0 s1 ⟨C0,A0,y0,E0⟩=>?_)
 refine RD.one (i:=8) (rk b0) (RO.val (m' :=511) (sk b0) rfl .plain rfl (AJ rfl ((A0.memA (.tl (.tl (.tl (.tl (.tl .hd)))))) 2 _ rfl)) ?_)
 refine RD.nu 9 1023 b0 rfl .plain rfl (AF (α:=Int) (xs:=([a0.fN]:List Int)) (vs:=[vI a0.fN]) (ds' :=[vI a0.fN]) rfl A0 el32 rfl (e1 rfl) (by kernel_rfl) rfl) (fun B0 s0 g0 d0=>?_)
 have t0:=Av (cs:=[vI a0.fN]) (xs:=(([a0.fN]:List Int):List Int)) g0 L (Ax (cs:=[vI a0.fN]) (ds:=[]) rfl (AC _ _))
 obtain ⟨p5,d3⟩:=Ay g0 (.one .hd (.one .hd (.one .hd (.one .hd (.one .hd .done)))))
 have t7:=Ap t0 d3
 have u7:=Ap E0 (Tt d0 d3)
 have B8:=Tt k0 (Tt y0 (Tt d0 d3))
 exact x0 ((vS s0 1),[vI a0.fN],F0,C0) _ _ ⟨rfl,rfl,rfl,rfl,rfl,trivial⟩ ⟨p5,B8,t7,u7⟩
 refine RO.val (m' :=447) (sk b0) rfl .plain rfl (AJ rfl ((p0.memA (.tl (.tl (.tl (.tl (.tl .hd)))))) 2 _ rfl))<|RD.each [6,9] (rk b0) ⟨?_,?_,trivial⟩
 have u0:=Aw g1 k0
 refine BD (m' :=511) (sk b0) rfl rfl .plain rfl (Bc (α:=Int) (ys:=c0.fe) z0 p0 (fun _ _=>.hd) el32 rfl rfl v0 (Src.rep u0)) (fun F0 s1 ⟨C0,A0,y0,E0⟩=>?_)
 refine RD.nu 9 1023 b0 rfl .plain rfl (AF (α:=Int) (xs:=([a0.fN]:List Int)) (vs:=[vI a0.fN]) (ds' :=[vI a0.fN]) rfl A0 el32 rfl (e1 rfl) (by kernel_rfl) rfl) (fun B0 s0 g0 d0=>?_)
 have t0:=Av (cs:=[vI a0.fN]) (xs:=(([a0.fN]:List Int):List Int)) g0 L (Ax (cs:=[vI a0.fN]) (ds:=[]) rfl (AC _ _))
 obtain ⟨q5,g3⟩:=Ay g0 (.one .hd (.one .hd (.one .hd (.one .hd (.one .hd .done)))))
 have v7:=Ap t0 g3
 have x7:=Ap E0 (Tt d0 g3)
 have C8:=Tt k0 (Tt y0 (Tt d0 g3))
 exact x0 ((vS s0 1),[vI a0.fN],F0,C0) _ _ ⟨rfl,rfl,rfl,rfl,rfl,trivial⟩ ⟨q5,C8,v7,x7⟩
 refine RO.new (m' :=959) (sk b0) rfl .plain rfl (AF (α:=Int) (xs:=([a0.fN]:List Int)) (vs:=[vI a0.fN]) (ds' :=[vI a0.fN]) rfl p0 el32 rfl (e1 rfl) (by kernel_rfl) rfl) (fun B0 s0 g0 d0=>?_)
 have t0:=Av (cs:=[vI a0.fN]) (xs:=(([a0.fN]:List Int):List Int)) g0 L (Ax (cs:=[vI a0.fN]) (ds:=[]) rfl (AC _ _))
 have u0:=Aw g1 (Tt k0 d0)
 have U0:=Ap v0 d0
 refine RD.one (i:=6) (rk b0) (BD (m' :=1023) (sk b0) rfl rfl .plain rfl (Bc (α:=Int) (ys:=c0.fe) z0 g0 (fun _ _=>(.tl .hd)) el32 rfl rfl U0 (Src.rep u0)) (fun Z0 W1 ⟨P0,Q0,D0,R0⟩=>?_))
 obtain ⟨s5,j3⟩:=Ay Q0 (.one .hd (.one .hd (.one .hd (.one .hd (.one .hd .done)))))
 have y7:=Ap t0 (Tt D0 j3)
 have z7:=Ap R0 j3
 have D8:=Tt k0 (Tt d0 (Tt D0 j3))
 exact x0 ((vS s0 1),[vI a0.fN],Z0,P0) _ _ ⟨rfl,rfl,rfl,rfl,rfl,trivial⟩ ⟨s5,D8,y7,z7⟩
 refine RO.val (m' :=445) (sk b0) rfl .plain rfl (AJ rfl ((q0.memA (.tl (.tl (.tl (.tl .hd))))) 2 _ rfl))<|RD.each [1,9] (rk b0) ⟨?_,?_,trivial⟩
 refine RO.new (m' :=447) (sk b0) rfl .plain rfl (AF (α:=Int) (xs:=([]:List Int)) (vs:=[]) (ds' :=[]) rfl q0 el32 rfl evs_nil (by kernel_rfl) rfl) (fun F1 t1 p0 k0=>?_)
 have v0:=Av (cs:=[]) (xs:=(([]:List Int):List Int)) p0 L (AC _ _)
 refine RD.each [6,9] (rk b0) ⟨?_,?_,trivial⟩
 have u0:=Aw g1 k0
 refine BD (m' :=511) (sk b0) rfl rfl .plain rfl (Bc (α:=Int) (ys:=c0.fe) z0 p0 (fun _ _=>.hd) el32 rfl rfl v0 (Src.rep u0)) (fun F0 s1 ⟨C0,A0,y0,E0⟩=>?_)
 refine RD.nu 9 1023 b0 rfl .plain rfl (AF (α:=Int) (xs:=([a0.fN]:List Int)) (vs:=[vI a0.fN]) (ds' :=[vI a0.fN]) rfl A0 el32 rfl (e1 rfl) (by kernel_rfl) rfl) (fun B0 s0 g0 d0=>?_)
 have t0:=Av (cs:=[vI a0.fN]) (xs:=(([a0.fN]:List Int):List Int)) g0 L (Ax (cs:=[vI a0.fN]) (ds:=[]) rfl (AC _ _))
 obtain ⟨t5,k3⟩:=Ay g0 (.one .hd (.one .hd (.one .hd (.one .hd (.one .hd .done)))))
 have A7:=Ap t0 k3
 have B7:=Ap E0 (Tt d0 k3)
 have E8:=Tt k0 (Tt y0 (Tt d0 k3))
 exact x0 ((vS s0 1),[vI a0.fN],F0,C0) _ _ ⟨rfl,rfl,rfl,rfl,rfl,trivial⟩ ⟨t5,E8,A7,B7⟩
 refine RO.new (m' :=959) (sk b0) rfl .plain rfl (AF (α:=Int) (xs:=([a0.fN]:List Int)) (vs:=[vI a0.fN]) (ds' :=[vI a0.fN]) rfl p0 el32 rfl (e1 rfl) (by kernel_rfl) rfl) (fun B0 s0 g0 d0=>?_)
 have t0:=Av (cs:=[vI a0.fN]) (xs:=(([a0.fN]:List Int):List Int)) g0 L (Ax (cs:=[vI a0.fN]) (ds:=[]) rfl (AC _ _))
 have u0:=Aw g1 (Tt k0 d0)
 have U0:=Ap v0 d0
 refine RD.one (i:=6) (rk b0) (BD (m' :=1023) (sk b0) rfl rfl .plain rfl (Bc (α:=Int) (ys:=c0.fe) z0 g0 (fun _ _=>(.tl .hd)) el32 rfl rfl U0 (Src.rep u0)) (fun Z0 W1 ⟨P0,Q0,D0,R0⟩=>?_))
 obtain ⟨u5,p3⟩:=Ay Q0 (.one .hd (.one .hd (.one .hd (.one .hd (.one .hd .done)))))
 have C7:=Ap t0 (Tt D0 p3)
 have D7:=Ap R0 p3
 have F8:=Tt k0 (Tt d0 (Tt D0 p3))
 exact x0 ((vS s0 1),[vI a0.fN],Z0,P0) _ _ ⟨rfl,rfl,rfl,rfl,rfl,trivial⟩ ⟨u5,F8,C7,D7⟩
 refine RO.new (m' :=957) (sk b0) rfl .plain rfl (AF (α:=Int) (xs:=([a0.fN]:List Int)) (vs:=[vI a0.fN]) (ds' :=[vI a0.fN]) rfl q0 el32 rfl (e1 rfl) (by kernel_rfl) rfl) (fun B0 s0 g0 d0=>?_)
 have t0:=Av (cs:=[vI a0.fN]) (xs:=(([a0.fN]:List Int):List Int)) g0 L (Ax (cs:=[vI a0.fN]) (ds:=[]) rfl (AC _ _))
 refine RD.nu 1 959 b0 rfl .plain rfl (AF (α:=Int) (xs:=([]:List Int)) (vs:=[]) (ds' :=[]) rfl g0 el32 rfl evs_nil (by kernel_rfl) rfl) (fun F1 t1 p0 k0=>?_)
 have v0:=Av (cs:=[]) (xs:=(([]:List Int):List Int)) p0 L (AC _ _)
 have u0:=Aw g1 (Tt d0 k0)
 refine RD.one (i:=6) (rk b0) (BD (m' :=1023) (sk b0) rfl rfl .plain rfl (Bc (α:=Int) (ys:=c0.fe) z0 p0 (fun _ _=>.hd) el32 rfl rfl v0 (Src.rep u0)) (fun F0 s1 ⟨C0,A0,y0,E0⟩=>?_))
 obtain ⟨v5,U3⟩:=Ay A0 (.one (.tl .hd) (.one .hd (.one .hd (.one .hd (.one .hd .done)))))
 have d4:=Tt k0 (Tt y0 U3)
 have E7:=Ap t0 d4
 have F7:=Ap E0 U3
 exact x0 ((vS s0 1),[vI a0.fN],F0,C0) _ _ ⟨rfl,rfl,rfl,rfl,rfl,trivial⟩ ⟨v5,(Tt d0 d4),E7,F7⟩
 refine RO.val (m' :=413) (sk b0) rfl .plain rfl (AJ rfl ((q0.memA (.tl (.tl (.tl (.tl .hd))))) 2 _ rfl))<|RD.each [1,5,9] (rk b0) ⟨?_,?_,?_,trivial⟩
 refine RO.new (m' :=415) (sk b0) rfl .plain rfl (AF (α:=Int) (xs:=([]:List Int)) (vs:=[]) (ds' :=[]) rfl q0 el32 rfl evs_nil (by kernel_rfl) rfl) (fun F1 t1 p0 k0=>?_)
 have v0:=Av (cs:=[]) (xs:=(([]:List Int):List Int)) p0 L (AC _ _)
 refine RD.each [5,9] (rk b0) ⟨?_,?_,trivial⟩
 have A1:=Ap K0 (Tt J0 k0)
 obtain ⟨I1,P1,Q1,K1,W0,V0,M1⟩:=St.nthAt (α:=TUnit) p0 (.tl .hd) A1 I0 H0
 obtain ⟨G3,U1,V1,rfl,X0,B1,R1⟩:=op_TUnit W0
 refine RO.val (m' :=447) (sk b0) rfl .plain rfl (AJ rfl (V0 2 _ rfl))<|RD.each [6,9] (rk b0) ⟨?_,?_,trivial⟩
 refine BD (m' :=511) (sk b0) rfl rfl .plain rfl (Bc (α:=Int) (ys:=c0.fe) z0 p0 (fun _ _=>.hd) el32 rfl rfl v0 (Src.rep X0)) (fun C1 H3 ⟨u1,k1,y1,z1⟩=>?_)
 refine RD.nu 9 1023 b0 rfl .plain rfl (AF (α:=Int) (xs:=([a0.fN]:List Int)) (vs:=[vI a0.fN]) (ds' :=[vI a0.fN]) rfl k1 el32 rfl (e1 rfl) (by kernel_rfl) rfl) (fun B0 s0 g0 d0=>?_)
 have t0:=Av (cs:=[vI a0.fN]) (xs:=(([a0.fN]:List Int):List Int)) g0 L (Ax (cs:=[vI a0.fN]) (ds:=[]) rfl (AC _ _))
 obtain ⟨x5,q3⟩:=Ay g0 (.one .hd (.one .hd (.one .hd (.one .hd (.one .hd .done)))))
 have G7:=Ap t0 q3
 have H7:=Ap z1 (Tt d0 q3)
 have G8:=Tt k0 (Tt y1 (Tt d0 q3))
 exact x0 ((vS s0 1),[vI a0.fN],C1,u1) _ _ ⟨rfl,rfl,rfl,rfl,rfl,trivial⟩ ⟨x5,G8,G7,H7⟩
 refine RO.new (m' :=959) (sk b0) rfl .plain rfl (AF (α:=Int) (xs:=([a0.fN]:List Int)) (vs:=[vI a0.fN]) (ds' :=[vI a0.fN]) rfl p0 el32 rfl (e1 rfl) (by kernel_rfl) rfl) (fun B0 s0 g0 d0=>?_)
 have t0:=Av (cs:=[vI a0.fN]) (xs:=(([a0.fN]:List Int):List Int)) g0 L (Ax (cs:=[vI a0.fN]) (ds:=[]) rfl (AC _ _))
 have u0:=Aw X0 d0
 have U0:=Ap v0 d0
 refine RD.one (i:=6) (rk b0) (BD (m' :=1023) (sk b0) rfl rfl .plain rfl (Bc (α:=Int) (ys:=c0.fe) z0 g0 (fun _ _=>(.tl .hd)) el32 rfl rfl U0 (Src.rep u0)) (fun Z0 W1 ⟨P0,Q0,D0,R0⟩=>?_))
 obtain ⟨y5,s3⟩:=Ay Q0 (.one .hd (.one .hd (.one .hd (.one .hd (.one .hd .done)))))
 have I7:=Ap t0 (Tt D0 s3)
 have J7:=Ap R0 s3
 have H8:=Tt k0 (Tt d0 (Tt D0 s3))
 exact x0 ((vS s0 1),[vI a0.fN],Z0,P0) _ _ ⟨rfl,rfl,rfl,rfl,rfl,trivial⟩ ⟨y5,H8,I7,J7⟩
 refine RO.new (m' :=927) (sk b0) rfl .plain rfl (AF (α:=Int) (xs:=([a0.fN]:List Int)) (vs:=[vI a0.fN]) (ds' :=[vI a0.fN]) rfl p0 el32 rfl (e1 rfl) (by kernel_rfl) rfl) (fun B0 s0 g0 d0=>?_)
 have t0:=Av (cs:=[vI a0.fN]) (xs:=(([a0.fN]:List Int):List Int)) g0 L (Ax (cs:=[vI a0.fN]) (ds:=[]) rfl (AC _ _))
 have A3:=Tt J0 (Tt k0 d0)
 have z3:=Ap K0 A3
 obtain ⟨I1,P1,Q1,K1,W0,V0,M1⟩:=St.nthAt (α:=TUnit) g0 (.tl (.tl .hd)) z3 I0 H0
 obtain ⟨U1,V1,A00,rfl,B1,R1,W9⟩:=op_TUnit W0
 refine AV 5 959 15424 b0 rfl b1 (AJ rfl (V0 2 _ rfl)) rfl ?_
 have u0:=Ap v0 d0
 refine RD.one (i:=6) (rk b0) (BD (m' :=1023) (sk b0) rfl rfl .plain rfl (Bc (α:=Int) (ys:=c0.fe) z0 g0 (fun _ _=>(.tl .hd)) el32 rfl rfl u0 (Src.rep B1)) (fun F0 s1 ⟨C0,A0,y0,E0⟩=>?_))
 obtain ⟨z5,t3⟩:=Ay A0 (.one .hd (.one .hd (.one .hd (.one .hd (.one .hd .done)))))
 have K7:=Ap t0 (Tt y0 t3)
 have M7:=Ap E0 t3
 have I8:=Tt k0 (Tt d0 (Tt y0 t3))
 exact x0 ((vS s0 1),[vI a0.fN],F0,C0) _ _ ⟨rfl,rfl,rfl,rfl,rfl,trivial⟩ ⟨z5,I8,K7,M7⟩
 refine RO.val (m' :=445) (sk b0) rfl .plain rfl (AJ rfl (t2 2 _ rfl))<|RD.each [1,9] (rk b0) ⟨?_,?_,trivial⟩
 refine RO.new (m' :=447) (sk b0) rfl .plain rfl (AF (α:=Int) (xs:=([]:List Int)) (vs:=[]) (ds' :=[]) rfl q0 el32 rfl evs_nil (by kernel_rfl) rfl) (fun F1 t1 p0 k0=>?_)
 have v0:=Av (cs:=[]) (xs:=(([]:List Int):List Int)) p0 L (AC _ _)
 refine RD.each [6,9] (rk b0) ⟨?_,?_,trivial⟩
 have u0:=Aw g1 k0
 refine BD (m' :=511) (sk b0) rfl rfl .plain rfl (Bc (α:=Int) (ys:=c0.fe) z0 p0 (fun _ _=>.hd) el32 rfl rfl v0 (Src.rep u0)) (fun F0 s1 ⟨C0,A0,y0,E0⟩=>?_)
 refine RD.nu 9 1023 b0 rfl .plain rfl (AF (α:=Int) (xs:=([a0.fN]:List Int)) (vs:=[vI a0.fN]) (ds' :=[vI a0.fN]) rfl A0 el32 rfl (e1 rfl) (by kernel_rfl) rfl) (fun B0 s0 g0 d0=>?_)
 have t0:=Av (cs:=[vI a0.fN]) (xs:=(([a0.fN]:List Int):List Int)) g0 L (Ax (cs:=[vI a0.fN]) (ds:=[]) rfl (AC _ _))
 obtain ⟨A5,u3⟩:=Ay g0 (.one .hd (.one .hd (.one .hd (.one .hd (.one .hd .done)))))
 have P7:=Ap t0 u3
 have Q7:=Ap E0 (Tt d0 u3)
 have J8:=Tt k0 (Tt y0 (Tt d0 u3))
 exact x0 ((vS s0 1),[vI a0.fN],F0,C0) _ _ ⟨rfl,rfl,rfl,rfl,rfl,trivial⟩ ⟨A5,J8,P7,Q7⟩
 refine RO.new (m' :=959) (sk b0) rfl .plain rfl (AF (α:=Int) (xs:=([a0.fN]:List Int)) (vs:=[vI a0.fN]) (ds' :=[vI a0.fN]) rfl p0 el32 rfl (e1 rfl) (by kernel_rfl) rfl) (fun B0 s0 g0 d0=>?_)
 have t0:=Av (cs:=[vI a0.fN]) (xs:=(([a0.fN]:List Int):List Int)) g0 L (Ax (cs:=[vI a0.fN]) (ds:=[]) rfl (AC _ _))
 have u0:=Aw g1 (Tt k0 d0)
 have U0:=Ap v0 d0
 refine RD.one (i:=6) (rk b0) (BD (m' :=1023) (sk b0) rfl rfl .plain rfl (Bc (α:=Int) (ys:=c0.fe) z0 g0 (fun _ _=>(.tl .hd)) el32 rfl rfl U0 (Src.rep u0)) (fun Z0 W1 ⟨P0,Q0,D0,R0⟩=>?_))
 obtain ⟨B5,v3⟩:=Ay Q0 (.one .hd (.one .hd (.one .hd (.one .hd (.one .hd .done)))))
 have R7:=Ap t0 (Tt D0 v3)
 have U7:=Ap R0 v3
 have K8:=Tt k0 (Tt d0 (Tt D0 v3))
 exact x0 ((vS s0 1),[vI a0.fN],Z0,P0) _ _ ⟨rfl,rfl,rfl,rfl,rfl,trivial⟩ ⟨B5,K8,R7,U7⟩
 refine RO.new (m' :=957) (sk b0) rfl .plain rfl (AF (α:=Int) (xs:=([a0.fN]:List Int)) (vs:=[vI a0.fN]) (ds' :=[vI a0.fN]) rfl q0 el32 rfl (e1 rfl) (by kernel_rfl) rfl) (fun B0 s0 g0 d0=>?_)
 have t0:=Av (cs:=[vI a0.fN]) (xs:=(([a0.fN]:List Int):List Int)) g0 L (Ax (cs:=[vI a0.fN]) (ds:=[]) rfl (AC _ _))
 refine RD.nu 1 959 b0 rfl .plain rfl (AF (α:=Int) (xs:=([]:List Int)) (vs:=[]) (ds' :=[]) rfl g0 el32 rfl evs_nil (by kernel_rfl) rfl) (fun F1 t1 p0 k0=>?_)
 have v0:=Av (cs:=[]) (xs:=(([]:List Int):List Int)) p0 L (AC _ _)
 have u0:=Aw g1 (Tt d0 k0)
 refine RD.one (i:=6) (rk b0) (BD (m' :=1023) (sk b0) rfl rfl .plain rfl (Bc (α:=Int) (ys:=c0.fe) z0 p0 (fun _ _=>.hd) el32 rfl rfl v0 (Src.rep u0)) (fun F0 s1 ⟨C0,A0,y0,E0⟩=>?_))
 obtain ⟨C5,V3⟩:=Ay A0 (.one (.tl .hd) (.one .hd (.one .hd (.one .hd (.one .hd .done)))))
 have g4:=Tt k0 (Tt y0 V3)
 have V7:=Ap t0 g4
 have W7:=Ap E0 V3
 exact x0 ((vS s0 1),[vI a0.fN],F0,C0) _ _ ⟨rfl,rfl,rfl,rfl,rfl,trivial⟩ ⟨C5,(Tt d0 g4),V7,W7⟩
 refine RO.new (m' :=925) (sk b0) rfl .plain rfl (AF (α:=Int) (xs:=([a0.fN]:List Int)) (vs:=[vI a0.fN]) (ds' :=[vI a0.fN]) rfl q0 el32 rfl (e1 rfl) (by kernel_rfl) rfl) (fun B0 s0 g0 d0=>?_)
 have t0:=Av (cs:=[vI a0.fN]) (xs:=(([a0.fN]:List Int):List Int)) g0 L (Ax (cs:=[vI a0.fN]) (ds:=[]) rfl (AC _ _))
 have A1:=Ap K0 (Tt J0 d0)
 obtain ⟨I1,P1,Q1,K1,W0,V0,M1⟩:=St.nthAt (α:=TUnit) g0 (.tl .hd) A1 I0 H0
 obtain ⟨G3,U1,V1,rfl,X0,B1,R1⟩:=op_TUnit W0
 refine AV 5 957 15424 b0 rfl b1 (AJ rfl (V0 2 _ rfl)) rfl<|RD.nu 1 959 b0 rfl .plain rfl (AF (α:=Int) (xs:=([]:List Int)) (vs:=[]) (ds' :=[]) rfl g0 el32 rfl evs_nil (by kernel_rfl) rfl) (fun F1 t1 p0 k0=>?_)
 have v0:=Av (cs:=[]) (xs:=(([]:List Int):List Int)) p0 L (AC _ _)
 have u0:=Aw X0 k0
 refine RD.one (i:=6) (rk b0) (BD (m' :=1023) (sk b0) rfl rfl .plain rfl (Bc (α:=Int) (ys:=c0.fe) z0 p0 (fun _ _=>.hd) el32 rfl rfl v0 (Src.rep u0)) (fun F0 s1 ⟨C0,A0,y0,E0⟩=>?_))
 obtain ⟨D5,W3⟩:=Ay A0 (.one (.tl .hd) (.one .hd (.one .hd (.one .hd (.one .hd .done)))))
 have j4:=Tt k0 (Tt y0 W3)
 have X7:=Ap t0 j4
 have Y7:=Ap E0 W3
 exact x0 ((vS s0 1),[vI a0.fN],F0,C0) _ _ ⟨rfl,rfl,rfl,rfl,rfl,trivial⟩ ⟨D5,(Tt d0 j4),X7,Y7⟩
 refine Ae<|Ac (BG (i:=(a0.fB % (7:UInt8)).toNat) (j:=3) rfl rfl)<|Af rfl<|Aa<|AM rfl h (fun R4 h=>?_) (fun R4 h=>?_)
 refine Al<|Ab rfl<|Ab rfl<|Ac (BB rfl)<|Bf 5 rfl<|AN rfl (t2 5 _ rfl)<|Ac (Be rfl)<|Ac (BB rfl)<|Bf 5 rfl ?_
 obtain ⟨R00,G6,p02,u01,t9,y02,A6⟩:=St.nthAt (α:=TUnit) q0 .hd p1 I0 H0
 obtain ⟨x4,y4,z4,rfl,u9,v9,x9⟩:=op_TUnit t9
 obtain ⟨F00,s00,h⟩:=bi h
 refine RG.acts' .plain (Acts.setPart (α:=TUnit) (i:=q1.toNat) (tot:=5) (ds:=[.string c0.ft,vI c0.fp,x4,y4,z4,.bool c0.fo]) (news:=[.bool (!c0.fo)]) (full:=[.string c0.ft,vI c0.fp,x4,y4,z4,.bool (!c0.fo)]) s00 q0 G6 (fun _=>.hd) p1 A6 rfl (by kernel_rfl) rfl rfl rfl rfl (mk_TUnit c0.ft c0.fp c0.fe u9 c0.fC v9 c0.fw x9 (!c0.fo)) (by kernel_rfl) (o1 rfl)) (fun q03 ⟨v01,G2,Q01,s6⟩=>?_)
 refine Aa<|Aq<|Ae<|Ac (AE rfl (G2.memA (.tl .hd)))<|Bu [vI a1.fe,vI a1.fc,vI a1.fh,j0] G2 (.tl (.tl .hd)) (o4 rfl rfl rfl (St.o1 (α:=TUnit) G2 .hd)) (fun s03 H2 Q5=>?_)
 refine Aa<|Ao rfl ?_
 have Z7:=Ap s6 Q5
 have y9:=AU (α:=TUnit) H2 .hd Z7 hL
 have d2:=Bk H2 .hd
 have R01:=Bl H2 .hd
 have z9:=Bm (α:=TUnit) (v:=j0) (xs:=F00) d2 L y9
 refine AB hb0 Tryz.func13 rfl (.cons (.many (cs:=[vI a1.fe,vI a1.fc,vI a1.fh,j0]) (by kernel_rfl) rfl (d2.memA (.tl .hd))) .nil) rfl ?_
 cases h
 exact ⟨d2.ag,fun w9 hw9=>⟨j0,rfl,d2.kd z9 hw9⟩⟩
 refine Ae<|Ac (BG (i:=(a0.fB % (7:UInt8)).toNat) (j:=4) rfl rfl)<|Af rfl<|Aa<|AM rfl h (fun U4 h=>?_) (fun U4 h=>?_)
 refine Al<|Ab rfl<|Bf 3 rfl<|AN rfl ((q0.memA (.tl .hd)) 3 _ rfl) ?_
 obtain ⟨I3,c00,h⟩:=bi h
 obtain ⟨H4,U00,x3,X3,x01,A9,b8⟩:=St.nth (α:=TUnit) q0 .hd p1 c00
 obtain ⟨M4,V00,H6⟩:=St.nthOwn (α:=TUnit) q0 .hd X3
 obtain rfl:H4 = ⟨M4,0,none⟩:=by rw [H6] at x3; cases x3; rfl
 obtain ⟨K02,M02,P02,rfl,E02,F02,G02⟩:=op_TUnit A9
 refine Ac (AY 6 0 rfl x3 rfl rfl X3)<|Bf 0 rfl<|AN rfl (b8 0 _ rfl)<|Ac (BB rfl)<|Bf 0 rfl ?_
 obtain ⟨W00,I6,q02,y01,B9,z02,B6⟩:=St.nthAt (α:=TUnit) q0 .hd p1 I0 H0
 obtain ⟨A4,B4,C4,rfl,C9,D9,E9⟩:=op_TUnit B9
 obtain ⟨G00,t00,h⟩:=bi h
 refine RG.acts' .plain (Acts.setPart (α:=TUnit) (i:=q1.toNat) (tot:=0) (ds:=[.string c0.ft,vI c0.fp,A4,B4,C4,.bool c0.fo]) (news:=[.string I3.ft]) (full:=[.string I3.ft,vI c0.fp,A4,B4,C4,.bool c0.fo]) t00 q0 I6 (fun _=>.hd) p1 B6 rfl (by kernel_rfl) rfl rfl rfl rfl (mk_TUnit I3.ft c0.fp c0.fe C9 c0.fC D9 c0.fw E9 c0.fo) (by kernel_rfl) (o1 rfl)) (fun t03 ⟨z01,I2,U01,t6⟩=>?_)
 refine Aa<|Aq<|Ae<|Ac (AE rfl (I2.memA (.tl .hd)))<|Bu [vI a1.fe,vI a1.fc,vI a1.fh,j0] I2 (.tl (.tl .hd)) (o4 rfl rfl rfl (St.o1 (α:=TUnit) I2 .hd)) (fun u03 J2 R5=>?_)
 refine Aa<|Ao rfl ?_
 have c8:=Ap t6 R5
 have F9:=AU (α:=TUnit) J2 .hd c8 hL
 have g2:=Bk J2 .hd
 have V01:=Bl J2 .hd
 have G9:=Bm (α:=TUnit) (v:=j0) (xs:=G00) g2 L F9
 refine AB hb0 Tryz.func13 rfl (.cons (.many (cs:=[vI a1.fe,vI a1.fc,vI a1.fh,j0]) (by kernel_rfl) rfl (g2.memA (.tl .hd))) .nil) rfl ?_
 cases h
 exact ⟨g2.ag,fun w9 hw9=>⟨j0,rfl,g2.kd G9 hw9⟩⟩
 refine Ae<|Ac (BG (i:=(a0.fB % (7:UInt8)).toNat) (j:=5) rfl rfl)<|Af rfl<|Aa<|AM rfl h (fun V4 h=>?_) (fun V4 h=>?_)
 refine Al<|Bf 2 rfl<|Ac (AJ rfl ((q0.memA (.tl (.tl (.tl (.tl .hd))))) 2 _ rfl))<|Bf 2 rfl<|RG.now .plain (BH (j:=2) (old:=[vI a1.fe,vI a1.fc,vI a1.fh,j0]) (news:=[vI a0.fN]) (new' :=[vI a1.fe,vI a1.fc,vI a0.fN,j0]) q0 (.tl .hd) rfl rfl rfl rfl rfl rfl (o1 rfl) rfl) (fun v03 K2 U5=>?_)
 refine Aa<|Aq<|Ae<|Ac (AE rfl (K2.memA (.tl .hd)))<|Bu [vI a1.fe,vI a1.fc,vI a0.fN,j0] K2 (.tl (.tl .hd)) (o4 rfl rfl rfl (St.o1 (α:=TUnit) K2 .hd)) (fun x03 M2 V5=>?_)
 refine Aa<|Ao rfl ?_
 have M8:=Tt J0 (Tt U5 V5)
 have d8:=Ap K0 M8
 have H9:=AU (α:=TUnit) M2 .hd d8 hL
 have j2:=Bk M2 .hd
 have W01:=Bl M2 .hd
 have I9:=Bm (α:=TUnit) (v:=j0) (xs:=d1) j2 L H9
 refine AB hb0 Tryz.func13 rfl (.cons (.many (cs:=[vI a1.fe,vI a1.fc,vI a0.fN,j0]) (by kernel_rfl) rfl (j2.memA (.tl .hd))) .nil) rfl ?_
 cases h
 exact ⟨j2.ag,fun w9 hw9=>⟨j0,rfl,j2.kd I9 hw9⟩⟩
 refine Al<|Ab rfl<|Bf 2 rfl<|Ac (AJ rfl ((q0.memA (.tl (.tl (.tl (.tl .hd))))) 2 _ rfl))<|Az .plain rfl (AF (α:=Int) (xs:=([a0.fN]:List Int)) (vs:=[vI a0.fN]) (ds' :=[vI a0.fN]) rfl q0 el32 rfl (e1 rfl) (by kernel_rfl) rfl) (fun y03 u2 k2 W5=>?_)
 have u6:=Av (cs:=[vI a0.fN]) (xs:=(([a0.fN]:List Int):List Int)) k2 L (Ax (cs:=[vI a0.fN]) (ds:=[]) rfl (AC _ _))
 refine Ac (BB rfl)<|Bf 4 rfl ?_
 have J9:=AU (α:=Int) k2 .hd u6 hL
 have P2:=Bk k2 .hd
 have X5:=Bl k2 .hd
 have D3:=Bm (α:=Int) (v:=(vS u2 1)) (xs:=([a0.fN]:List Int)) P2 L J9
 have P8:=Tt J0 (Tt W5 X5)
 have c4:=Ap K0 P8
 obtain ⟨X00,J6,s02,A01,K9,A02,C6⟩:=St.nthAt (α:=TUnit) P2 .hd c4 I0 H0
 obtain ⟨D4,E4,z00,rfl,M9,P9,H02⟩:=op_TUnit K9
 obtain ⟨H00,u00,h⟩:=bi h
 refine RG.acts' .plain (Acts.setPart (α:=TUnit) (i:=q1.toNat) (tot:=4) (ds:=[.string c0.ft,vI c0.fp,D4,E4,z00,.bool c0.fo]) (news:=[(vS u2 1)]) (full:=[.string c0.ft,vI c0.fp,D4,E4,(vS u2 1),.bool c0.fo]) u00 P2 J6 (fun _=>.hd) c4 C6 rfl (by kernel_rfl) rfl rfl rfl (Rep.c1 D3) (mk_TUnit c0.ft c0.fp c0.fe M9 c0.fC P9 ([a0.fN]:List Int) D3 c0.fo) (by kernel_rfl) (o1 (BI D3))) (fun z03 ⟨B01,Q2,X01,v6⟩=>?_)
 refine Aa<|Aq<|Ae<|Ac (AE rfl (Q2.memA (.tl .hd)))<|Bu [vI a1.fe,vI a1.fc,vI a1.fh,j0] Q2 (.tl (.tl .hd)) (o4 rfl rfl rfl (St.o1 (α:=TUnit) Q2 .hd)) (fun A03 R2 Y5=>?_)
 refine Aa<|Ao rfl ?_
 have g8:=Ap v6 Y5
 have Q9:=AU (α:=TUnit) R2 .hd g8 hL
 have p2:=Bk R2 .hd
 have Y01:=Bl R2 .hd
 have R9:=Bm (α:=TUnit) (v:=j0) (xs:=H00) p2 L Q9
 refine AB hb0 Tryz.func13 rfl (.cons (.many (cs:=[vI a1.fe,vI a1.fc,vI a1.fh,j0]) (by kernel_rfl) rfl (p2.memA (.tl .hd))) .nil) rfl ?_
 cases h
 exact ⟨p2.ag,fun w9 hw9=>⟨j0,rfl,p2.kd R9 hw9⟩⟩
def tb14_5:List (Nat × Nat × Nat):=[(0,16384,32),(0,32768,4),(2,65536,32768),(4,131072,65536),(0,262144,32),(16,524288,262144),(40,1048576,655360),(0,2097152,4),(128,4194304,2097152),(511,8388608,1064960),(1023,0,12582912)]
def wardmoteref21_Bend_Of_p (_n:Nat) (a0:TBend) (a1:List Int):Option (List Int):=
  (app ([]:List Int) a1).bind fun b0=>(if ((a0.fB % (4:UInt8)).toNat) = 0 then (remI ((a0.fAt.toNat:Nat):Int) ((b0.length:Nat):Int)).bind fun c0=>(idx b0 c0).bind fun _x37=>(put b0 ((c0.toNat:Nat):Int) a0.fN).bind fun d0=>some d0 else (if ((a0.fB % (4:UInt8)).toNat) = 1 then (app b0 ([a0.fN]:List Int)).bind fun g0=>some g0 else (if ((a0.fB % (4:UInt8)).toNat) = 2 then (cut b0 0 (((b0.length:Nat):Int) - 1)).bind fun j0=>some j0 else some b0)))
theorem wardmoteref21_Bend_Of_c (n:Nat) (L:List Nat) (w:World) (hL:∀ b ∈ L,b < w.heap.size) (a0:TBend) (a1:List Int) {v1_0:Value} (h1_0:Rep.R w L [v1_0] a1)  {r:List Int} (h:wardmoteref21_Bend_Of_p n a0 a1 = some r) :
    Calls Tryz.prog 14 #[.agg #[.int .u8 (a0.fB.toNat:Int),.int .u8 (a0.fAt.toNat:Int),vI a0.fN],v1_0] w (Gives w fun w' u=>∃ v0_0:Value,u = v0_0∧Rep.R w' L [v0_0] r):=by
 unfold wardmoteref21_Bend_Of_p at h
 have hS0:=AD w
 refine AI Tryz.func14 rfl rfl rfl (fun _ cs0 hb0=>?_)
 refine Ae<|Az .plain rfl (AK hS0 rfl rfl) (fun v2 K1 A0 Y1=>?_)
 refine Af rfl<|Aa<|Ae<|Af rfl<|Aa<|Ae<|Ab rfl<|Ab rfl ?_
 have p0:=A0.nilRow 3 (Rep.size Int)
 have Z1:=BF A0 3 (Rep.size Int)
 have P0:=Av (cs:=[]) (xs:=([]:List Int)) p0 L (AC _ _)
 obtain ⟨g0,A1,h⟩:=bi h
 have Z0:=Bn h1_0 p0
 refine RG.doesL .plain rfl (Bc (α:=Int) (ys:=a1) A1 p0 (fun _ _=>.hd) el33 rfl rfl P0 (Src.rep Z0)) (fun k0 x2 ⟨V1,b0,b2,j0⟩=>?_)
 refine Af rfl<|Aa<|Aj<|Ae<|Bf 0 rfl<|AN rfl ((b0.memA (.tl .hd)) 0 _ rfl)<|Ac (FV.rem8 (a:=a0.fB) (b:=(4:UInt8)) rfl rfl (by decide))<|Aa<|Au<|Ae<|Ac (BG (i:=(a0.fB % (4:UInt8)).toNat) (j:=0) rfl rfl)<|Af rfl<|Aa<|AM rfl h (fun H0 h=>?_) (fun H0 h=>?_)
 refine dt 10 tb14_5 (fun c0 d0=>?_)
 refine Ai 0 1 c0 rfl d0 (fun _=>Ah rfl) rfl<|Ai 1 3 c0 rfl d0 (fun _=>Br 1 rfl) rfl<|AV 2 7 1608 c0 rfl d0 (AJ rfl ((b0.memA (.tl .hd)) 1 _ rfl)) rfl ?_
 have u2:=a0.fAt.toNat_lt
 refine Ai 3 15 c0 rfl d0 (fun _=>FV.convN (i:=a0.fAt.toNat) Tryz.underlying5 Tryz.underlying3 rfl (by omega)) rfl<|Ai 4 31 c0 rfl d0 (fun _=>Ah rfl) rfl ?_
 have q2:g0.length ≤ 4294967296:=St.rowLe (α:=Int) b0 .hd
 obtain ⟨I1,P1,V0⟩:=St.rowV (α:=Int) b0 .hd
 refine AV 5 63 1600 c0 rfl d0 (FV.lenV Tryz.underlying33 rfl V0) rfl ?_
 obtain ⟨D0,x1,h⟩:=bi h
 refine Ai 6 127 c0 rfl d0 (fun _=>FV.remc (i:=((a0.fAt.toNat:Nat):Int)) (j:=((g0.length:Nat):Int)) rfl rfl x1) rfl<|Ai 7 255 c0 rfl d0 (fun _=>Br 2 rfl) rfl<|AV 8 511 1536 c0 rfl d0 (AJ rfl ((b0.memA (.tl .hd)) 2 _ rfl)) rfl ?_
 obtain ⟨F1,y1,h⟩:=bi h
 obtain ⟨Y0,z1⟩:=idx_in y1
 obtain ⟨F0,Q1,z0,C0,K0,c1,t2⟩:=St.nth (α:=Int) b0 .hd j0 z1
 obtain ⟨G0,R1,B0⟩:=St.nthOwn (α:=Int) b0 .hd C0
 obtain rfl:F0 = ⟨G0,0,none⟩:=by rw [B0] at z0; cases z0; rfl
 have W0:K0 = [vI F1]:=c1; subst W0
 refine Ai 9 1023 c0 rfl d0 (fun _=>AY 1 (D0.toNat) rfl z0 rfl Y0 C0) rfl ?_
 obtain ⟨G1,B1,h⟩:=bi h
 refine RD.one (i:=10) (rk c0) (RO.acts (m' :=2047) (sk c0) rfl rfl .plain (Acts.set (α:=Int) (i:=D0.toNat) B1 b0 B0 (fun _=>.hd) j0 rfl rfl rfl rfl rfl (by kernel_rfl)) (fun y2 ⟨W1,q0,c2,Q0⟩=>?_))
 refine AX (dk c0)<|Aq<|Ae<|Ab rfl<|Af rfl<|Aa<|Ao rfl ?_
 have d1:=AU (α:=Int) q0 .hd Q0 hL
 have s0:=Bk q0 .hd
 have d2:=Bl q0 .hd
 have g1:=Bm (α:=Int) (v:=k0) (xs:=G1) s0 L d1
 refine AL hb0 Tryz.func14 rfl rfl ?_
 cases h
 exact ⟨s0.ag,fun w9 hw9=>⟨k0,rfl,s0.kd g1 hw9⟩⟩
 refine Ae<|Ac (BG (i:=(a0.fB % (4:UInt8)).toNat) (j:=1) rfl rfl)<|Af rfl<|Aa<|AM rfl h (fun I0 h=>?_) (fun I0 h=>?_)
 refine Al<|Ab rfl<|Bf 2 rfl<|AN rfl ((b0.memA (.tl .hd)) 2 _ rfl)<|Az .plain rfl (AF (α:=Int) (xs:=([a0.fN]:List Int)) (vs:=[vI a0.fN]) (ds' :=[vI a0.fN]) rfl b0 el33 rfl (e1 rfl) (by kernel_rfl) rfl) (fun z2 M1 t0 M0=>?_)
 have R0:=Av (cs:=[vI a0.fN]) (xs:=(([a0.fN]:List Int):List Int)) t0 L (Ax (cs:=[vI a0.fN]) (ds:=[]) rfl (AC _ _))
 obtain ⟨H1,C1,h⟩:=bi h
 have b1:=Ap j0 M0
 refine RG.doesL .plain rfl (Bc (α:=Int) (ys:=([a0.fN]:List Int)) C1 t0 (fun _ _=>(.tl .hd)) el33 rfl rfl b1 (Src.row (α:=Int) t0 .hd R0)) (fun E0 A2 ⟨X1,u0,g2,U0⟩=>?_)
 refine Af rfl<|Aa<|Aq<|Ae<|Ab rfl<|Af rfl<|Aa<|Ao rfl ?_
 have j1:=AU (α:=Int) u0 (.tl .hd) U0 hL
 have v0:=Bk u0 (.tl .hd)
 have j2:=Bl u0 (.tl .hd)
 have k1:=Bm (α:=Int) (v:=E0) (xs:=H1) v0 L j1
 refine AL hb0 Tryz.func14 rfl rfl ?_
 cases h
 exact ⟨v0.ag,fun w9 hw9=>⟨E0,rfl,v0.kd k1 hw9⟩⟩
 refine Ae<|Ac (BG (i:=(a0.fB % (4:UInt8)).toNat) (j:=2) rfl rfl)<|Af rfl<|Aa<|AM rfl h (fun J0 h=>?_) (fun J0 h=>?_)
 refine Al<|Ab rfl<|Ab rfl ?_
 have s2:g0.length ≤ 4294967296:=St.rowLe (α:=Int) b0 .hd
 obtain ⟨J1,U1,X0⟩:=St.rowV (α:=Int) b0 .hd
 refine Ac (FV.lenV Tryz.underlying33 rfl X0)<|Ac (FV.subI (i:=((g0.length:Nat):Int)) (j:=1) rfl rfl (by omega)) ?_
 have p1:=AU (α:=Int) b0 .hd j0 hL
 have x0:=Bk b0 .hd
 have k2:=Bl b0 .hd
 have q1:=Bm (α:=Int) (v:=k0) (xs:=g0) x0 L p1
 obtain ⟨B2,D1,h⟩:=bi h
 refine RG.valE .plain rfl (FV.cutL (α:=Int) D1 (by kernel_rfl) rfl q1 rfl ⟨_,rfl⟩) (fun E1 s1=>?_)
 refine Af rfl<|Aa<|Aq<|Ae<|Ab rfl<|Af rfl<|Aa<|Ao rfl<|AL hb0 Tryz.func14 rfl rfl ?_
 cases h
 exact ⟨x0.ag,fun w9 hw9=>⟨E1,rfl,x0.kd s1 hw9⟩⟩
 refine Am<|Aq<|Ae<|Ab rfl<|Af rfl<|Aa<|Ao rfl ?_
 have u1:=AU (α:=Int) b0 .hd j0 hL
 have y0:=Bk b0 .hd
 have p2:=Bl b0 .hd
 have v1:=Bm (α:=Int) (v:=k0) (xs:=g0) y0 L u1
 refine AL hb0 Tryz.func14 rfl rfl ?_
 cases h
 exact ⟨y0.ag,fun w9 hw9=>⟨k0,rfl,y0.kd v1 hw9⟩⟩
def wardmoteref16_named_l1 (_n:Nat) (a0:ByteArray) (g0:Int → Option (Bool ⊕ Unit)):Int → Option (Bool ⊕ Unit)
  | d0=>(if d0 < ((a0.size:Nat):Int) then (sidx a0 d0).bind fun b0=>jn (fun j0=>(if j0 = true then some (.inl false) else (chk (d0 + 1)).bind fun k0=>g0 k0)) (fun c0=>(if 65 ≤ b0.toNat then (if b0.toNat ≤ 90 then c0 false else (if 97 ≤ b0.toNat then (if b0.toNat ≤ 122 then c0 false else (if 48 ≤ b0.toNat then (if b0.toNat ≤ 57 then c0 false else (if b0.toNat = 45 then c0 false else c0 (!(decide (b0.toNat = 95))))) else (if b0.toNat = 45 then c0 false else c0 (!(decide (b0.toNat = 95)))))) else (if 48 ≤ b0.toNat then (if b0.toNat ≤ 57 then c0 false else (if b0.toNat = 45 then c0 false else c0 (!(decide (b0.toNat = 95))))) else (if b0.toNat = 45 then c0 false else c0 (!(decide (b0.toNat = 95))))))) else (if 97 ≤ b0.toNat then (if b0.toNat ≤ 122 then c0 false else (if 48 ≤ b0.toNat then (if b0.toNat ≤ 57 then c0 false else (if b0.toNat = 45 then c0 false else c0 (!(decide (b0.toNat = 95))))) else (if b0.toNat = 45 then c0 false else c0 (!(decide (b0.toNat = 95)))))) else (if 48 ≤ b0.toNat then (if b0.toNat ≤ 57 then c0 false else (if b0.toNat = 45 then c0 false else c0 (!(decide (b0.toNat = 95))))) else (if b0.toNat = 45 then c0 false else c0 (!(decide (b0.toNat = 95)))))))) else some (.inr ()))
def wardmoteref16_named_p (n:Nat) (a0:ByteArray):Option Bool:=
  thn (loopF (wardmoteref16_named_l1 n a0) n 0) (fun _=>(if 1 ≤ a0.size then some (decide (a0.size ≤ 12)) else some false))
theorem wardmoteref16_named_c (n:Nat) (L:List Nat) (w:World) (_hL:∀ b ∈ L,b < w.heap.size) (a0:ByteArray)  {r:Bool} (h:wardmoteref16_named_p n a0 = some r) :
    Calls Tryz.prog 110 #[.string a0] w (Gives w fun _ u=>u = .bool r):=by
 unfold wardmoteref16_named_p at h
 have hS0:=AD w
 refine AI Tryz.func110 rfl rfl rfl (fun _ cs0 hb0=>?_)
 refine Ae<|Af rfl<|Aa<|Aj<|Ae<|Af rfl<|Aa<|Au ?_
 obtain ⟨u1,d1,s0⟩:=thn_in h
 refine AW (α:=Int) (fun g0=>[(0,.string a0),(3,vI g0)]) (fun g0 k0=>St w k0 []∧Tr w [] k0 []) (fun g0=>g0) 0 d1 ⟨rfl,rfl,trivial⟩ ⟨hS0,AA _ _⟩ ?_
 rintro q1 g0 k0 Y0 ⟨c0,Z0⟩ h
 unfold wardmoteref16_named_l1 at h
 try dsimp only at h
 refine Aj<|Ae<|Ab rfl<|Ab rfl<|Ac (BA Tryz.underlying9 rfl)<|Ac (FV.lss (i:=g0) (j:=((a0.size:Nat):Int)) rfl rfl)<|Aa<|AM rfl h (fun t0 h=>?_) (fun t0 h=>?_)
 refine Am<|Aj<|Au<|Ae<|Ab rfl<|Ab rfl ?_
 obtain ⟨b0,k1,h⟩:=bi h
 obtain ⟨c1,j1⟩:=sidx_in k1
 refine Ac (FV.strAt (k:=g0.toNat) Tryz.underlying9 rfl rfl c1 j1)<|Af rfl<|Aa<|Aj<|MX.join (α:=Bool) (fun j0=>[(0,.string a0),(3,vI g0),(44,.bool j0)]) (fun j0 p0=>St w p0 []∧Tr k0 [] p0 []) (fun j0=>j0) h ?_ ?_
 rintro j0 p0 ⟨q0,b1⟩ h
 try dsimp only at h
 refine MX.ifb rfl h (fun u0 h=>?_) (fun u0 h=>?_)
 refine Ae<|Af rfl<|Aa ?_
 have h:=thn_inl h s0
 refine Ao rfl<|AL hb0 Tryz.func110 rfl rfl ?_
 cases h
 exact q0.gv
 refine Am<|Aq<|Al<|Ab rfl ?_
 obtain ⟨p1,g1,h⟩:=bi h
 refine Ac (By (i:=g0) (j:=1) rfl rfl g1)<|Af rfl<|Aa ?_
 exact Y0 p1 _ _ ⟨rfl,rfl,trivial⟩ ⟨q0,(Tt Z0 b1)⟩ h
 intro s1 d0 h
 try dsimp only at h
 refine Al<|Ab rfl<|Ac (FV.geqN (i:=b0.toNat) (j:=65) rfl rfl)<|Ab rfl<|Bx (s:=16) rfl h (fun v0 h=>?_) (fun v0 h=>?_)
 refine Ar (Ah rfl)<|Ar (FV.leqN (i:=b0.toNat) (j:=90) rfl rfl)<|AG rfl rfl<|Ab rfl<|Bx (s:=20) rfl h (fun x0 h=>?_) (fun x0 h=>?_)
 refine Ag<|Ag<|Ag<|RG.un<|RG.un<|Ag<|AG rfl rfl<|Ab rfl<|Ag<|Ag<|Ag<|RG.un<|RG.un<|Ag<|AG rfl rfl<|Ab rfl<|Ag<|Ag<|AG rfl rfl<|Ab rfl<|Ag<|Ag<|AG rfl rfl<|Ac (Be rfl) ?_
 refine Aa ?_
 exact d0 false _ _ ⟨rfl,rfl,rfl,trivial⟩ ⟨c0,AA _ _⟩ h
 refine Ar (Ah rfl)<|Ar (FV.geqN (i:=b0.toNat) (j:=97) rfl rfl)<|Ar (Ah rfl)<|Bx (s:=23) rfl h (fun y0 h=>?_) (fun y0 h=>?_)
 refine Ar (Ah rfl)<|Ar (FV.leqN (i:=b0.toNat) (j:=122) rfl rfl)<|Ar (Bz rfl rfl)<|Bd rfl rfl<|Ab rfl<|Bx (s:=28) rfl h (fun z0 h=>?_) (fun z0 h=>?_)
 refine Ag<|Ag<|Ag<|RG.un<|RG.un<|Ag<|AG rfl rfl<|Ab rfl<|Ag<|Ag<|AG rfl rfl<|Ab rfl<|Ag<|Ag<|AG rfl rfl<|Ac (Be rfl)<|Aa ?_
 exact d0 false _ _ ⟨rfl,rfl,rfl,trivial⟩ ⟨c0,AA _ _⟩ h
 refine Ar (Ah rfl)<|Ar (FV.geqN (i:=b0.toNat) (j:=48) rfl rfl)<|Ar (Ah rfl)<|Bx (s:=31) rfl h (fun A0 h=>?_) (fun A0 h=>?_)
 refine Ar (Ah rfl)<|Ar (FV.leqN (i:=b0.toNat) (j:=57) rfl rfl)<|Ar (Bz rfl rfl)<|Bd rfl rfl<|Ab rfl<|Bx (s:=36) rfl h (fun B0 h=>?_) (fun B0 h=>?_)
 refine Ag<|Ag<|AG rfl rfl<|Ab rfl<|Ag<|Ag<|AG rfl rfl<|Ac (Be rfl)<|Aa ?_
 exact d0 false _ _ ⟨rfl,rfl,rfl,trivial⟩ ⟨c0,AA _ _⟩ h
 refine Ar (Ah rfl)<|Ar (BG (i:=b0.toNat) (j:=45) rfl rfl)<|Bd rfl rfl<|Ab rfl<|Bx (s:=40) rfl h (fun C0 h=>?_) (fun C0 h=>?_)
 refine Ag<|Ag<|AG rfl rfl<|Ac (Be rfl)<|Aa ?_
 exact d0 false _ _ ⟨rfl,rfl,rfl,trivial⟩ ⟨c0,AA _ _⟩ h
 refine Ar (Ah rfl)<|Ar (BG (i:=b0.toNat) (j:=95) rfl rfl)<|Bd rfl rfl<|Ac (Be rfl)<|Aa ?_
 exact d0 (!(decide (b0.toNat = 95))) _ _ ⟨rfl,rfl,rfl,trivial⟩ ⟨c0,AA _ _⟩ h
 refine Ag<|Ag<|Ar (AP rfl rfl)<|Bd rfl rfl<|Ab rfl<|Ar (Ah rfl)<|Ar (BG (i:=b0.toNat) (j:=45) rfl rfl)<|Bd rfl rfl<|Ab rfl<|Bx (s:=40) rfl h (fun D0 h=>?_) (fun D0 h=>?_)
 refine Ag<|Ag<|AG rfl rfl<|Ac (Be rfl)<|Aa ?_
 exact d0 false _ _ ⟨rfl,rfl,rfl,trivial⟩ ⟨c0,AA _ _⟩ h
 refine Ar (Ah rfl)<|Ar (BG (i:=b0.toNat) (j:=95) rfl rfl)<|Bd rfl rfl<|Ac (Be rfl)<|Aa ?_
 exact d0 (!(decide (b0.toNat = 95))) _ _ ⟨rfl,rfl,rfl,trivial⟩ ⟨c0,AA _ _⟩ h
 refine Ag<|Ag<|Ar (AP rfl rfl)<|Bd rfl rfl<|Ab rfl<|Ar (Ah rfl)<|Ar (FV.geqN (i:=b0.toNat) (j:=48) rfl rfl)<|Ar (Ah rfl)<|Bx (s:=31) rfl h (fun E0 h=>?_) (fun E0 h=>?_)
 refine Ar (Ah rfl)<|Ar (FV.leqN (i:=b0.toNat) (j:=57) rfl rfl)<|Ar (Bz rfl rfl)<|Bd rfl rfl<|Ab rfl<|Bx (s:=36) rfl h (fun F0 h=>?_) (fun F0 h=>?_)
 refine Ag<|Ag<|AG rfl rfl<|Ab rfl<|Ag<|Ag<|AG rfl rfl<|Ac (Be rfl)<|Aa ?_
 exact d0 false _ _ ⟨rfl,rfl,rfl,trivial⟩ ⟨c0,AA _ _⟩ h
 refine Ar (Ah rfl)<|Ar (BG (i:=b0.toNat) (j:=45) rfl rfl)<|Bd rfl rfl<|Ab rfl<|Bx (s:=40) rfl h (fun G0 h=>?_) (fun G0 h=>?_)
 refine Ag<|Ag<|AG rfl rfl<|Ac (Be rfl)<|Aa ?_
 exact d0 false _ _ ⟨rfl,rfl,rfl,trivial⟩ ⟨c0,AA _ _⟩ h
 refine Ar (Ah rfl)<|Ar (BG (i:=b0.toNat) (j:=95) rfl rfl)<|Bd rfl rfl<|Ac (Be rfl)<|Aa ?_
 exact d0 (!(decide (b0.toNat = 95))) _ _ ⟨rfl,rfl,rfl,trivial⟩ ⟨c0,AA _ _⟩ h
 refine Ag<|Ag<|Ar (AP rfl rfl)<|Bd rfl rfl<|Ab rfl<|Ar (Ah rfl)<|Ar (BG (i:=b0.toNat) (j:=45) rfl rfl)<|Bd rfl rfl<|Ab rfl<|Bx (s:=40) rfl h (fun H0 h=>?_) (fun H0 h=>?_)
 refine Ag<|Ag<|AG rfl rfl<|Ac (Be rfl)<|Aa ?_
 exact d0 false _ _ ⟨rfl,rfl,rfl,trivial⟩ ⟨c0,AA _ _⟩ h
 refine Ar (Ah rfl)<|Ar (BG (i:=b0.toNat) (j:=95) rfl rfl)<|Bd rfl rfl<|Ac (Be rfl)<|Aa ?_
 exact d0 (!(decide (b0.toNat = 95))) _ _ ⟨rfl,rfl,rfl,trivial⟩ ⟨c0,AA _ _⟩ h
 refine Ag<|Ag<|Bd rfl rfl<|Ab rfl<|Ar (Ah rfl)<|Ar (FV.geqN (i:=b0.toNat) (j:=97) rfl rfl)<|Ar (Ah rfl)<|Bx (s:=23) rfl h (fun I0 h=>?_) (fun I0 h=>?_)
 refine Ar (Ah rfl)<|Ar (FV.leqN (i:=b0.toNat) (j:=122) rfl rfl)<|Ar (Bz rfl rfl)<|Bd rfl rfl<|Ab rfl<|Bx (s:=28) rfl h (fun J0 h=>?_) (fun J0 h=>?_)
 refine Ag<|Ag<|Ag<|RG.un<|RG.un<|Ag<|AG rfl rfl<|Ab rfl<|Ag<|Ag<|AG rfl rfl<|Ab rfl<|Ag<|Ag<|AG rfl rfl<|Ac (Be rfl)<|Aa ?_
 exact d0 false _ _ ⟨rfl,rfl,rfl,trivial⟩ ⟨c0,AA _ _⟩ h
 refine Ar (Ah rfl)<|Ar (FV.geqN (i:=b0.toNat) (j:=48) rfl rfl)<|Ar (Ah rfl)<|Bx (s:=31) rfl h (fun K0 h=>?_) (fun K0 h=>?_)
 refine Ar (Ah rfl)<|Ar (FV.leqN (i:=b0.toNat) (j:=57) rfl rfl)<|Ar (Bz rfl rfl)<|Bd rfl rfl<|Ab rfl<|Bx (s:=36) rfl h (fun M0 h=>?_) (fun M0 h=>?_)
 refine Ag<|Ag<|AG rfl rfl<|Ab rfl<|Ag<|Ag<|AG rfl rfl<|Ac (Be rfl)<|Aa ?_
 exact d0 false _ _ ⟨rfl,rfl,rfl,trivial⟩ ⟨c0,AA _ _⟩ h
 refine Ar (Ah rfl)<|Ar (BG (i:=b0.toNat) (j:=45) rfl rfl)<|Bd rfl rfl<|Ab rfl<|Bx (s:=40) rfl h (fun P0 h=>?_) (fun P0 h=>?_)
 refine Ag<|Ag<|AG rfl rfl<|Ac (Be rfl)<|Aa ?_
 exact d0 false _ _ ⟨rfl,rfl,rfl,trivial⟩ ⟨c0,AA _ _⟩ h
 refine Ar (Ah rfl)<|Ar (BG (i:=b0.toNat) (j:=95) rfl rfl)<|Bd rfl rfl<|Ac (Be rfl)<|Aa ?_
 exact d0 (!(decide (b0.toNat = 95))) _ _ ⟨rfl,rfl,rfl,trivial⟩ ⟨c0,AA _ _⟩ h
 refine Ag<|Ag<|Ar (AP rfl rfl)<|Bd rfl rfl<|Ab rfl<|Ar (Ah rfl)<|Ar (BG (i:=b0.toNat) (j:=45) rfl rfl)<|Bd rfl rfl<|Ab rfl<|Bx (s:=40) rfl h (fun Q0 h=>?_) (fun Q0 h=>?_)
 refine Ag<|Ag<|AG rfl rfl<|Ac (Be rfl)<|Aa ?_
 exact d0 false _ _ ⟨rfl,rfl,rfl,trivial⟩ ⟨c0,AA _ _⟩ h
 refine Ar (Ah rfl)<|Ar (BG (i:=b0.toNat) (j:=95) rfl rfl)<|Bd rfl rfl<|Ac (Be rfl)<|Aa ?_
 exact d0 (!(decide (b0.toNat = 95))) _ _ ⟨rfl,rfl,rfl,trivial⟩ ⟨c0,AA _ _⟩ h
 refine Ag<|Ag<|Ar (AP rfl rfl)<|Bd rfl rfl<|Ab rfl<|Ar (Ah rfl)<|Ar (FV.geqN (i:=b0.toNat) (j:=48) rfl rfl)<|Ar (Ah rfl)<|Bx (s:=31) rfl h (fun R0 h=>?_) (fun R0 h=>?_)
 refine Ar (Ah rfl)<|Ar (FV.leqN (i:=b0.toNat) (j:=57) rfl rfl)<|Ar (Bz rfl rfl)<|Bd rfl rfl<|Ab rfl<|Bx (s:=36) rfl h (fun U0 h=>?_) (fun U0 h=>?_)
 refine Ag<|Ag<|AG rfl rfl<|Ab rfl<|Ag<|Ag<|AG rfl rfl<|Ac (Be rfl)<|Aa ?_
 exact d0 false _ _ ⟨rfl,rfl,rfl,trivial⟩ ⟨c0,AA _ _⟩ h
 refine Ar (Ah rfl)<|Ar (BG (i:=b0.toNat) (j:=45) rfl rfl)<|Bd rfl rfl<|Ab rfl<|Bx (s:=40) rfl h (fun V0 h=>?_) (fun V0 h=>?_)
 refine Ag<|Ag<|AG rfl rfl<|Ac (Be rfl)<|Aa ?_
 exact d0 false _ _ ⟨rfl,rfl,rfl,trivial⟩ ⟨c0,AA _ _⟩ h
 refine Ar (Ah rfl)<|Ar (BG (i:=b0.toNat) (j:=95) rfl rfl)<|Bd rfl rfl<|Ac (Be rfl)<|Aa ?_
 exact d0 (!(decide (b0.toNat = 95))) _ _ ⟨rfl,rfl,rfl,trivial⟩ ⟨c0,AA _ _⟩ h
 refine Ag<|Ag<|Ar (AP rfl rfl)<|Bd rfl rfl<|Ab rfl<|Ar (Ah rfl)<|Ar (BG (i:=b0.toNat) (j:=45) rfl rfl)<|Bd rfl rfl<|Ab rfl<|Bx (s:=40) rfl h (fun W0 h=>?_) (fun W0 h=>?_)
 refine Ag<|Ag<|AG rfl rfl<|Ac (Be rfl)<|Aa ?_
 exact d0 false _ _ ⟨rfl,rfl,rfl,trivial⟩ ⟨c0,AA _ _⟩ h
 refine Ar (Ah rfl)<|Ar (BG (i:=b0.toNat) (j:=95) rfl rfl)<|Bd rfl rfl<|Ac (Be rfl)<|Aa ?_
 exact d0 (!(decide (b0.toNat = 95))) _ _ ⟨rfl,rfl,rfl,trivial⟩ ⟨c0,AA _ _⟩ h
 refine AR rfl ?_
 have h:=thn_inr h s0
 try dsimp only at h
 refine Ae<|Ab rfl<|Ac (BA Tryz.underlying9 rfl)<|Ac (FV.geqN (i:=a0.size) (j:=1) rfl rfl)<|Ab rfl<|Bx (s:=48) rfl h (fun X0 h=>?_) (fun X0 h=>?_)
 refine Ar (Ah rfl)<|Ar (BA Tryz.underlying9 rfl)<|Ar (FV.leqN (i:=a0.size) (j:=12) rfl rfl)<|AG rfl rfl<|Af rfl<|Aa<|Ao rfl<|AL hb0 Tryz.func110 rfl rfl ?_
 cases h
 exact c0.gv
 refine Ag<|Ag<|Ag<|Bd rfl rfl<|Af rfl<|Aa<|Ao rfl<|AL hb0 Tryz.func110 rfl rfl ?_
 cases h
 exact c0.gv
def wardmoteref16_within_l1 (_n:Nat) (a0:List Int) (a2:Int) (d0:Nat → Option (Bool ⊕ Unit)):Nat → Option (Bool ⊕ Unit)
  | b0=>(if b0 < a0.length then (a0[b0]?).bind fun c0=>(if c0 < 0 then some (.inl false) else (if a2 < c0 then some (.inl false) else d0 (b0 + 1))) else some (.inr ()))
def wardmoteref16_within_p (n:Nat) (a0:List Int) (a1:Int) (a2:Int):Option Bool:=
  thn (loopF (wardmoteref16_within_l1 n a0 a2) n 0) (fun _=>some (decide (((a0.length:Nat):Int) = a1)))
theorem wardmoteref16_within_c (n:Nat) (L:List Nat) (w:World) (_hL:∀ b ∈ L,b < w.heap.size) (a0:List Int) {v0_0:Value} (h0_0:Rep.R w L [v0_0] a0) (a1:Int) (a2:Int)  {r:Bool} (h:wardmoteref16_within_p n a0 a1 a2 = some r) :
    Calls Tryz.prog 111 #[v0_0,vI a1,vI a2] w (Gives w fun _ u=>u = .bool r):=by
 unfold wardmoteref16_within_p at h
 have hS0:=AD w
 refine AI Tryz.func111 rfl rfl rfl (fun _ cs0 hb0=>?_)
 refine Ae<|Af rfl<|Aa<|Aj<|Ae<|Af rfl<|Aa<|Au ?_
 obtain ⟨I0,B0,g0⟩:=thn_in h
 refine AW (α:=Nat) (fun b0=>[(0,v0_0),(1,vI a1),(2,vI a2),(7,vI ((b0:Nat):Int))]) (fun b0 j0=>St w j0 []∧Tr w [] j0 []) (fun b0=>b0) 0 B0 ⟨rfl,rfl,rfl,rfl,trivial⟩ ⟨hS0,AA _ _⟩ ?_
 rintro F0 b0 j0 y0 ⟨c0,z0⟩ h
 unfold wardmoteref16_within_l1 at h
 try dsimp only at h
 refine Aj<|Ae<|Ab rfl<|Ab rfl ?_
 have d0:=Bn h0_0 c0
 have H0:a0.length ≤ 281474976710656:=AO d0
 refine Ac (AZ (xs:=a0) Tryz.underlying32 rfl d0)<|Ac (Bg (i:=b0) (j:=a0.length) rfl rfl)<|Aa<|AM rfl h (fun t0 h=>?_) (fun t0 h=>?_)
 refine Am<|Aj<|Au<|Ae<|Ab rfl<|Ab rfl ?_
 obtain ⟨k0,D0,h⟩:=bi h
 obtain ⟨E0,G0,p0,q0,x0,C0,s0⟩:=AS d0 D0
 have A0:x0 = [vI k0]:=C0; subst A0
 refine Ac (AY 1 b0 rfl p0 rfl rfl q0)<|AN rfl (s0 0 _ rfl)<|Ac (FV.lss (i:=k0) (j:=0) rfl rfl)<|Ab rfl<|Bx (s:=19) rfl h (fun u0 h=>?_) (fun u0 h=>?_)
 refine Ag<|Ag<|Ag<|Ag<|Ag<|Ag<|AG rfl rfl<|Aa<|Bq rfl<|Ae<|Af rfl<|Aa ?_
 have h:=thn_inl h g0
 refine Ao rfl<|AL hb0 Tryz.func111 rfl rfl ?_
 cases h
 exact c0.gv
 refine Ar (Ah rfl)<|Ar (Ah rfl)<|Ar (AY 1 b0 rfl p0 rfl rfl q0)<|Ar (AJ rfl (s0 0 _ rfl))<|Ar (Ah rfl)<|Ar (FV.gtr (i:=k0) (j:=a2) rfl rfl)<|Bd rfl rfl<|Aa<|AM rfl h (fun v0 h=>?_) (fun v0 h=>?_)
 refine Ae<|Af rfl<|Aa ?_
 have h:=thn_inl h g0
 refine Ao rfl<|AL hb0 Tryz.func111 rfl rfl ?_
 cases h
 exact c0.gv
 refine Am<|Aq<|Al<|Ab rfl<|Ac (AT (i:=b0) (j:=1) rfl rfl (by omega))<|Af rfl<|Aa ?_
 exact y0 (b0 + 1) _ _ ⟨rfl,rfl,rfl,rfl,trivial⟩ ⟨c0,z0⟩ h
 refine AR rfl ?_
 have h:=thn_inr h g0
 try dsimp only at h
 refine Ae<|Ab rfl<|Ac (AZ (xs:=a0) Tryz.underlying32 rfl d0)<|Ab rfl<|Ac (FV.eql (i:=((a0.length:Nat):Int)) (j:=a1) rfl rfl)<|Af rfl<|Aa<|Ao rfl<|AL hb0 Tryz.func111 rfl rfl ?_
 cases h
 exact c0.gv
end Go.Proofs.YtfncplndfpgngaaGreatDoor
