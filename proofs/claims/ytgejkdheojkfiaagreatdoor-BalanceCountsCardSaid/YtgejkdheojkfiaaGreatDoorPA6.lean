/- Functions of the program, and what they give: part 6. -/
import Derived.Test.YtgejkdheojkfiaaGreatDoorPA5
namespace Go.Proofs.YtgejkdheojkfiaaGreatDoor
open Go Go.RowKit
set_option maxRecDepth 4000
set_option maxHeartbeats 4000000

def tb32_5:List (Nat × Nat × Nat):=[(0,268435456,64),(1,536870912,268435456),(2,1073741824,536870912),(4,2147483648,1073741824),(0,4294967296,64),(16,8589934592,4294967296),(32,17179869184,8589934592),(64,34359738368,17179869184),(128,68719476736,34359738368),(264,137438953472,70866960384),(512,274877906944,137438953472),(1024,549755813888,274877906944),(0,1099511627776,4),(0,2199023255552,64),(8192,4398046511104,2199023255552),(20480,8796093022208,5497558138880),(34816,17592186044416,9345848836096),(0,128,0),(262143,0,17592186044544)]
def tb32_11:List (Nat × Nat × Nat):=[(0,590295810358705651712,128),(1,1180591620717411303424,590295810358705651712),(0,2361183241434822606848,4),(0,4722366482869645213696,64),(8,9444732965739290427392,4722366482869645213696),(16,18889465931478580854784,9444732965739290427392),(0,37778931862957161709568,256),(96,75557863725914323419136,56668397794435742564352),(132,151115727451828646838272,77919046967349146025984),(256,302231454903657293676544,151115727451828646838272),(512,604462909807314587353088,302231454903657293676544),(1282,1208925819614629174706176,605643501428031998656512),(4095,2417851639229258349412352,128),(8191,0,3626777458843887524118528)]
def tb32_16:List (Nat × Nat × Nat):=[(0,79228162514264337593543950336,32),(1,158456325028528675187087900672,79228162514264337593543950336),(0,316912650057057350374175801344,32),(4,633825300114114700748351602688,316912650057057350374175801344),(8,1267650600228229401496703205376,633825300114114700748351602688),(0,2535301200456458802993406410752,32),(32,5070602400912917605986812821504,2535301200456458802993406410752),(64,10141204801825835211973625643008,5070602400912917605986812821504),(0,20282409603651670423947251286016,32),(256,40564819207303340847894502572032,20282409603651670423947251286016),(512,81129638414606681695789005144064,40564819207303340847894502572032),(1168,162259276829213363391578010288128,92538493816660746309259333992448),(2048,324518553658426726783156020576256,162259276829213363391578010288128),(4098,649037107316853453566312041152512,324677009983455255458343108476928),(16383,1298074214633706907132624082305024,32),(32767,0,1947111321950560360698936123457536)]
theorem el22:ElT Tryz.prog 22 5 (Rep.size UInt8) 1 (.int .u8 0) [.int .u8 0]:=⟨Tryz.underlying22,by kernel_rfl,rfl,rfl,rfl,rfl⟩
theorem body76:bodyB Tryz.prog 76 = true:=by kernel_rfl
def ac_l1 (n:Nat) (a0:Ti) (t0:Int) (d0:Nat × (List Int) -> Option (List Int)):Nat × (List Int) -> Option (List Int)
  | (b0,c0)=>(if b0 < ((a0.fj % (3:UInt8)).toNat) then (chk (9 * t0)).bind fun g0=>(chk (g0 + 7)).bind fun j0=>(chk (j0 + ((b0:Nat):Int))).bind fun k0=>(aQ_p n a0 k0).bind fun s0=>(remI s0 3).bind fun p0=>(app c0 ([p0]:List Int)).bind fun q0=>d0 (b0 + 1,q0) else some c0)
def ac_l2 (_n:Nat) (a0:Ti) (d0:Nat × (List Tb) -> Option (List Tb)):Nat × (List Tb) -> Option (List Tb)
  | (b0,c0)=>(if b0 < ((a0.fu % (2:UInt8)).toNat) then (mk (((a0.fe % (3:UInt8)).toNat:Nat):Int) (0:Int)).bind fun g0=>(mk (((a0.fh % (4:UInt8)).toNat:Nat):Int) (0:Int)).bind fun j0=>(mk (((a0.fj % (3:UInt8)).toNat:Nat):Int) (0:Int)).bind fun k0=>(app c0 ([(⟨⟨#[115,101,97]⟩,(0:Int),g0,j0,k0,true⟩:Tb)]:List Tb)).bind fun p0=>d0 (b0 + 1,p0) else some c0)
def ac_l3 (n:Nat) (a1:Int) (a0:Ti) (g0:Int × (List Tb) -> Option (List Tb)):Int × (List Tb) -> Option (List Tb)
  | (b0,c0)=>(if b0 < a1 then (remI b0 26).bind fun j0=>(chk (97 + j0)).bind fun k0=>(quoI b0 26).bind fun p0=>(remI p0 26).bind fun q0=>(chk (97 + q0)).bind fun s0=>(chk (9 * b0)).bind fun t0=>(aQ_p n a0 t0).bind fun d0=>(sadd ⟨#[117]⟩ (bstr ([u8ofI k0,u8ofI s0]:List UInt8))).bind fun u0=>(chk (9 * b0)).bind fun v0=>(chk (v0 + 1)).bind fun x0=>(av_p n a0 (((a0.fe % (3:UInt8)).toNat:Nat):Int) x0 d0).bind fun D0=>(chk (9 * b0)).bind fun y0=>(chk (y0 + 3)).bind fun z0=>(av_p n a0 (((a0.fh % (4:UInt8)).toNat:Nat):Int) z0 (255:Int)).bind fun E0=>Option.bind (loopF (ac_l1 n a0 b0) n (0,([]:List Int))) (fun B0=>(app c0 ([(⟨u0,d0,D0,E0,B0,false⟩:Tb)]:List Tb)).bind fun C0=>(chk (b0 + 1)).bind fun A0=>g0 (A0,C0)) else some c0)
def ac_p (n:Nat) (a0:Ti) (a1:Int):Option Tc:=
  Option.bind (loopF (ac_l3 n a1 a0) n (0,([]:List Tb))) (fun c0=>Option.bind (loopF (ac_l2 n a0) n (0,c0)) (fun b0=>some (⟨(((a0.fe % (3:UInt8)).toNat:Nat):Int),(((a0.fh % (4:UInt8)).toNat:Nat):Int),(((a0.fj % (3:UInt8)).toNat:Nat):Int),b0⟩:Tc)))
theorem ac_c (n:Nat) (L:List Nat) (w:World) (hL:∀ b ∈ L,b < w.heap.size) (a0:Ti) {v0_4:Value} (h0_4:Rep.R w L [v0_4] a0.fNums) {a1:Int}  {r:Tc} (h:ac_p n a0 a1 = some r) :
    Calls Tryz.prog 32 #[.agg #[.int .u8 (a0.fe.toNat:Int),.int .u8 (a0.fh.toNat:Int),.int .u8 (a0.fj.toNat:Int),.int .u8 (a0.fu.toNat:Int),v0_4],vI a1] w (Gives w fun w' u=>∃ v0_3:Value,u = .agg #[vI r.fe,vI r.fh,vI r.fj,v0_3]/\Rep.R w' L [v0_3] r.fo):=by
 unfold ac_p at h
 refine AF Tryz.func32 rfl rfl rfl fun _ cs0 hb0=>Ac<|RG.bx (AB w) rfl rfl fun q8 u0 H4 J7=>RG.nl [vI 0,vI 0,vI 0,vN] H4 fun y8 v0 X1 K7=>Aa<|Ac<|AV 0 rfl<|AP rfl ((X1.memA .t1) 0 _ rfl)<|Ab (FV.rem8 (a:=a0.fe) (b:=(3:UInt8)) rfl rfl (by decide)) ?_
 have V7:=(a0.fe % (3:UInt8)).toNat_lt
 refine Ab (FV.convN (i:=(a0.fe % (3:UInt8)).toNat) Tryz.underlying5 Tryz.underlying3 rfl (by omega))<|AV 1 rfl<|AP rfl ((X1.memA .t1) 1 _ rfl)<|Ab (FV.rem8 (a:=a0.fh) (b:=(4:UInt8)) rfl rfl (by decide)) ?_
 have W7:=(a0.fh % (4:UInt8)).toNat_lt
 refine Ab (FV.convN (i:=(a0.fh % (4:UInt8)).toNat) Tryz.underlying5 Tryz.underlying3 rfl (by omega))<|AV 2 rfl<|AP rfl ((X1.memA .t1) 2 _ rfl)<|Ab (FV.rem8 (a:=a0.fj) (b:=(3:UInt8)) rfl rfl (by decide)) ?_
 have X7:=(a0.fj % (3:UInt8)).toNat_lt
 refine Ab (FV.convN (i:=(a0.fj % (3:UInt8)).toNat) Tryz.underlying5 Tryz.underlying3 rfl (by omega))<|Ab (AX (vs:=[vI (((a0.fe % (3:UInt8)).toNat:Nat):Int),vI (((a0.fh % (4:UInt8)).toNat:Nat):Int),vI (((a0.fj % (3:UInt8)).toNat:Nat):Int)]) (u:=.agg #[vI (((a0.fe % (3:UInt8)).toNat:Nat):Int),vI (((a0.fh % (4:UInt8)).toNat:Nat):Int),vI (((a0.fj % (3:UInt8)).toNat:Nat):Int),vN]) (e3 rfl rfl rfl) (fun p=>by kernel_rfl))<|RG.nl [vI 0,vI 0,vI 0,vN] X1 fun z8 x0 I4 M7=>AQ [vI (((a0.fe % (3:UInt8)).toNat:Nat):Int),vI (((a0.fh % (4:UInt8)).toNat:Nat):Int),vI (((a0.fj % (3:UInt8)).toNat:Nat):Int),vN] I4 .hd (onesB rfl) fun A8 g3 P7=>Aa<|Aj<|Ac<|Af rfl<|Aa<|Ay ?_
 have A2:=g3.nilRow 101 (Rep.size Tb)
 have Q7:=St.nilRowT g3 101 (Rep.size Tb)
 have j3:=A2.nilRow 101 (Rep.size Tb)
 have R7:=Ax (cs:=[]) (xs:=([]:List Tb)) j3 L (AD _ _)
 obtain ⟨Z7,M5,I5⟩:=bind_in2 h
 refine MX.lf (α:=Int × (List Tb) × Value × (List Value)) (fun ⟨z0,X0,y0,Z0⟩=>[(1,vI a1),(2,vP u0),(4,vP v0),(5,vP x0),(6,vI z0)]) (fun ⟨z0,X0,y0,Z0⟩=>[.row w.heap.size 101 (Rep.size Tb) vN (([]:List Tb).length) [],.row w.heap.size 101 (Rep.size Tb) y0 X0.length Z0,.cells x0 [vI (((a0.fe % (3:UInt8)).toNat:Nat):Int),vI (((a0.fh % (4:UInt8)).toNat:Nat):Int),vI (((a0.fj % (3:UInt8)).toNat:Nat):Int),y0] 44,.cells v0 [vI 0,vI 0,vI 0,vN] 44,.cells u0 [.int .u8 (a0.fe.toNat:Int),.int .u8 (a0.fh.toNat:Int),.int .u8 (a0.fj.toNat:Int),.int .u8 (a0.fu.toNat:Int),v0_4] 27]) (fun ⟨z0,X0,y0,Z0⟩ c4=>Cells c4 (bl [.row w.heap.size 101 (Rep.size Tb) vN (([]:List Tb).length) [],.row w.heap.size 101 (Rep.size Tb) y0 X0.length Z0,.cells x0 [vI (((a0.fe % (3:UInt8)).toNat:Nat):Int),vI (((a0.fh % (4:UInt8)).toNat:Nat):Int),vI (((a0.fj % (3:UInt8)).toNat:Nat):Int),y0] 44,.cells v0 [vI 0,vI 0,vI 0,vN] 44,.cells u0 [.int .u8 (a0.fe.toNat:Int),.int .u8 (a0.fh.toNat:Int),.int .u8 (a0.fj.toNat:Int),.int .u8 (a0.fu.toNat:Int),v0_4] 27] ++ L) Z0 X0) (fun ⟨z0,X0,y0,Z0⟩=>(z0,X0)) (0,([]:List Tb),vN,[]) M5 j3 (Au (Ax (cs:=[]) (xs:=([]:List Tb)) A2 L (AD _ _)) (St.nilRowT A2 101 (Rep.size Tb))) ?_
 rintro t7 ⟨z0,X0,y0,Z0⟩ c4 y4 I1 c5 E3 h
 unfold ac_l3 at h
 try dsimp only at h
 refine Aj<|Ac<|Ae rfl<|Ae rfl<|Ab (BR (i:=z0) (j:=a1) rfl rfl)<|Aa<|AS rfl h (fun p4 h=>?_) (fun p4 h=>?_)
 refine Aq<|Aj<|Ay<|Aj<|dt 18 tb32_5 fun c0 q0=>Ag 0 1 c0 rfl q0 (fun _=>Ai rfl) rfl<|bk h fun H6 R5 h=>Ag 1 3 c0 rfl q0 (fun _=>FV.remc (i:=z0) (j:=26) rfl rfl R5) rfl<|bk h fun D0 U5 h=>Ag 2 7 c0 rfl q0 (fun _=>BL (i:=97) (j:=H6) rfl rfl U5) rfl<|Ag 3 15 c0 rfl q0 (fun _=>FV.convU8 (i:=D0) Tryz.underlying3 Tryz.underlying5 rfl) rfl<|Ag 4 31 c0 rfl q0 (fun _=>Ai rfl) rfl<|bk h fun I6 V5 h=>Ag 5 63 c0 rfl q0 (fun _=>FV.quoc (i:=z0) (j:=26) rfl rfl V5) rfl<|bk h fun J6 W5 h=>Ag 6 127 c0 rfl q0 (fun _=>FV.remc (i:=I6) (j:=26) rfl rfl W5) rfl<|bk h fun t0 X5 h=>Ag 7 255 c0 rfl q0 (fun _=>BL (i:=97) (j:=J6) rfl rfl X5) rfl<|Ag 8 511 c0 rfl q0 (fun _=>FV.convU8 (i:=t0) Tryz.underlying3 Tryz.underlying5 rfl) rfl<|AG 12 4607 360448 c0 rfl q0 (AK rfl (I1.memA .t4)) rfl<|Ag 13 12799 c0 rfl q0 (fun _=>Ai rfl) rfl<|bk h fun c8 Y5 h=>Ag 14 29183 c0 rfl q0 (fun _=>FV.mulc (i:=9) (j:=z0) rfl rfl Y5) rfl<|bk h fun g0 D6 h=>BT 15 61951 327680 (vI g0) c0 rfl q0 body75 rfl (e2 rfl rfl) (fun p q=>aQ_c n _ p (I1.hL0 hL q) a0 (I1.k0 h0_4 q) D6) rfl<|bk h fun j0 Z3 h=>RD.mo (α:=Nat) (fun G1=>[(1,vI a1),(2,vP u0),(4,vP v0),(5,vP x0),(6,vI z0),(44,.agg #[.string j0,vI g0,vN,vN,vN,.bool false]),(7,vP G1)]) (fun G1=>[.cells G1 [.string ⟨#[]⟩,vI 0,vN,vN,vN,.bool false] 101,.row w.heap.size 101 (Rep.size Tb) vN (([]:List Tb).length) [],.row w.heap.size 101 (Rep.size Tb) y0 X0.length Z0,.cells x0 [vI (((a0.fe % (3:UInt8)).toNat:Nat):Int),vI (((a0.fh % (4:UInt8)).toNat:Nat):Int),vI (((a0.fj % (3:UInt8)).toNat:Nat):Int),y0] 44,.cells v0 [vI 0,vI 0,vI 0,vN] 44,.cells u0 [.int .u8 (a0.fe.toNat:Int),.int .u8 (a0.fh.toNat:Int),.int .u8 (a0.fj.toNat:Int),.int .u8 (a0.fu.toNat:Int),v0_4] 27]) I1 1 262143 ?_ ?_
 rintro G1 P8 J4 d5
 try dsimp only
 refine BJ 18 524287 c0 rfl rfl .plain (AH (news:=[.string j0,vI g0,vN,vN,vN,.bool false]) J4 .hd rfl rfl rfl rfl rfl rfl (onesB rfl)) fun B8 Q1 g5=>AM (dk c0)<|Ac<|Ab (AK rfl (Q1.memA .t5))<|AV 0 rfl<|AP rfl ((Q1.memA .t3) 0 _ rfl)<|Ae rfl<|bk h fun K6 Z5 h=>Ab (FV.mulc (i:=9) (j:=z0) rfl rfl Z5)<|bk h fun d8 b6 h=>Ab (BL (i:=K6) (j:=1) rfl rfl b6)<|AV 1 rfl<|AP rfl ((Q1.memA .hd) 1 _ rfl)<|bk h fun s2 E6 h=>AZ (fst:=[]) (cap:=[]) .plain body76 rfl (e4 rfl rfl rfl rfl) (fun p q=>av_c n _ p (Q1.hL hL q) a0 (Q1.km h0_4 q) E6) rfl fun C8 W0 u5 ⟨k8,hu_,c2⟩=>?_
 subst hu_
 obtain ⟨K4,j5⟩:=Q1.agr u5
 refine AV 2 rfl<|RG.now .plain (BP (j:=2) (old:=[.string j0,vI g0,vN,vN,vN,.bool false]) (news:=[W0]) (new' :=[.string j0,vI g0,W0,vN,vN,.bool false]) K4 .hd rfl rfl rfl (Rep.c1 c2) rfl rfl (o1 (AR c2)) rfl) fun D8 R1 v3=>Aa<|Ac<|Ab (AK rfl (R1.memA .t5))<|AV 1 rfl<|AP rfl ((R1.memA .t3) 1 _ rfl)<|Ae rfl<|bk h fun M6 c6 h=>Ab (FV.mulc (i:=9) (j:=z0) rfl rfl c6)<|bk h fun g8 d6 h=>Ab (BL (i:=M6) (j:=3) rfl rfl d6)<|bk h fun u2 F6 h=>AZ (fst:=[]) (cap:=[]) .plain body76 rfl (e4 rfl rfl rfl rfl) (fun p q=>av_c n _ p (R1.hL hL q) a0 (R1.km h0_4 q) F6) rfl fun E8 z1 v5 ⟨p8,hu_,g2⟩=>?_
 subst hu_
 obtain ⟨M4,x3⟩:=R1.agr v5
 refine AV 3 rfl<|RG.now .plain (BP (j:=3) (old:=[.string j0,vI g0,W0,vN,vN,.bool false]) (news:=[z1]) (new' :=[.string j0,vI g0,W0,z1,vN,.bool false]) M4 .hd rfl rfl rfl (Rep.c1 g2) rfl rfl (o1 (AR g2)) rfl) fun F8 k3 V2=>Aa<|Aj<|Ac<|Af rfl<|Aa<|Ay ?_
 have p3:=k3.nilRow 3 (Rep.size Int)
 have W2:=St.nilRowT k3 3 (Rep.size Int)
 obtain ⟨b8,P5,J5⟩:=bind_in2 h
 refine MX.lf (α:=Nat × (List Int) × Value × (List Value)) (fun ⟨x1,R0,K0,H1⟩=>[(1,vI a1),(2,vP u0),(4,vP v0),(5,vP x0),(6,vI z0),(7,vP G1),(8,vI ((x1:Nat):Int))]) (fun ⟨x1,R0,K0,H1⟩=>[.row w.heap.size 3 (Rep.size Int) K0 R0.length H1,.cells G1 [.string j0,vI g0,W0,z1,K0,.bool false] 101,.row w.heap.size 101 (Rep.size Tb) vN (([]:List Tb).length) [],.row w.heap.size 101 (Rep.size Tb) y0 X0.length Z0,.cells x0 [vI (((a0.fe % (3:UInt8)).toNat:Nat):Int),vI (((a0.fh % (4:UInt8)).toNat:Nat):Int),vI (((a0.fj % (3:UInt8)).toNat:Nat):Int),y0] 44,.cells v0 [vI 0,vI 0,vI 0,vN] 44,.cells u0 [.int .u8 (a0.fe.toNat:Int),.int .u8 (a0.fh.toNat:Int),.int .u8 (a0.fj.toNat:Int),.int .u8 (a0.fu.toNat:Int),v0_4] 27]) (fun ⟨x1,R0,K0,H1⟩ d4=>Cells d4 (bl [.row w.heap.size 3 (Rep.size Int) K0 R0.length H1,.cells G1 [.string j0,vI g0,W0,z1,K0,.bool false] 101,.row w.heap.size 101 (Rep.size Tb) vN (([]:List Tb).length) [],.row w.heap.size 101 (Rep.size Tb) y0 X0.length Z0,.cells x0 [vI (((a0.fe % (3:UInt8)).toNat:Nat):Int),vI (((a0.fh % (4:UInt8)).toNat:Nat):Int),vI (((a0.fj % (3:UInt8)).toNat:Nat):Int),y0] 44,.cells v0 [vI 0,vI 0,vI 0,vN] 44,.cells u0 [.int .u8 (a0.fe.toNat:Int),.int .u8 (a0.fh.toNat:Int),.int .u8 (a0.fj.toNat:Int),.int .u8 (a0.fu.toNat:Int),v0_4] 27] ++ L) H1 R0) (fun ⟨x1,R0,K0,H1⟩=>(x1,R0)) (0,([]:List Int),vN,[]) P5 p3 (Ax (cs:=[]) (xs:=([]:List Int)) p3 L (AD _ _)) ?_
 rintro u7 ⟨x1,R0,K0,H1⟩ d4 z4 b1 Z1 F3 h
 unfold ac_l1 at h
 try dsimp only at h
 refine Aj<|Ac<|Ae rfl<|AV 2 rfl<|AP rfl ((b1.memA .t4) 2 _ rfl)<|Ab (Bu (i:=x1) (j:=(a0.fj % (3:UInt8)).toNat) rfl rfl)<|Aa<|AS rfl h (fun q4 h=>?_) (fun q4 h=>?_)
 refine Aq<|Aj<|Ay<|dt 11 tb32_11 fun s0 y1=>Ag 0 1 s0 rfl y1 (fun _=>Bd 4 rfl) rfl<|AG 1 3 14336 s0 rfl y1 (AL rfl ((b1.memA .t1) 4 _ rfl)) rfl<|AG 2 7 16128 s0 rfl y1 (AK rfl (b1.memA .t6)) rfl<|Ag 3 15 s0 rfl y1 (fun _=>Ai rfl) rfl<|bk h fun P6 g6 h=>Ag 4 31 s0 rfl y1 (fun _=>FV.mulc (i:=9) (j:=z0) rfl rfl g6) rfl<|bk h fun Q6 j6 h=>Ag 5 63 s0 rfl y1 (fun _=>BL (i:=P6) (j:=7) rfl rfl j6) rfl<|Ag 6 127 s0 rfl y1 (fun _=>Ai rfl) rfl<|bk h fun j8 k6 h=>Ag 7 255 s0 rfl y1 (fun _=>BL (i:=Q6) (j:=((x1:Nat):Int)) rfl rfl k6) rfl<|bk h fun g4 G6 h=>BT 8 511 15872 (vI g4) s0 rfl y1 body75 rfl (e2 rfl rfl) (fun p q=>aQ_c n _ p (b1.hL0 hL q) a0 (b1.k0 h0_4 q) G6) rfl<|bk h fun K1 p6 h=>Ag 9 1023 s0 rfl y1 (fun _=>FV.remc (i:=g4) (j:=3) rfl rfl p6) rfl<|BS 10 2047 s0 rfl .plain rfl (AE (α:=Int) (xs:=([K1]:List Int)) (vs:=[vI K1]) (ds' :=[vI K1]) rfl b1 el45 rfl (e1 rfl) (by kernel_rfl) rfl) fun G8 x7 C2 y3=>bk h fun X6 B6 h=>Be (i:=11) (rk s0) (Bs (m' :=4095) (sk s0) rfl rfl .plain rfl (AW (α:=Int) (ys:=([K1]:List Int)) B6 C2 (fun _ _=>.t1) el45 rfl rfl (Au F3 y3) (Src.row (α:=Int) C2 .hd (Ax (cs:=[vI K1]) (xs:=(([K1]:List Int):List Int)) C2 L (Am (cs:=[vI K1]) (ds:=[]) rfl (AD _ _))))) (fun Z2 H8 ⟨u4,D2,k5,C5⟩=>?_))
 refine Be (i:=12) (rk s0) (Bq (m' :=8191) (sk s0) rfl .plain rfl (Bd 4 rfl) ?_)
 refine BJ 13 16383 s0 rfl rfl .plain (BP (j:=4) (old:=[.string j0,vI g0,W0,z1,K0,.bool false]) (news:=[Z2]) (new' :=[.string j0,vI g0,W0,z1,Z2,.bool false]) D2 .t2 rfl rfl rfl (St.c1 (α:=Int) D2 .t1) rfl rfl (o1 (St.o1 (α:=Int) D2 .t1)) rfl) fun I8 P4 z3=>AM (dk s0)<|AA<|Av<|Ae rfl<|Ab (Bw (i:=x1) (j:=1) rfl rfl (by omega))<|Af rfl<|Aa ?_
 obtain ⟨Q4,A3⟩:=AI P4 .d1
 exact z4 (x1 + 1,X6,Z2,u4) Q4 (Tt Z1 (Tt y3 (Tt k5 (Tt z3 A3)))) (Au C5 (Tt z3 A3)) h
 refine Ba rfl ?_
 have h:=J5 _ h
 try dsimp only at h
 refine Av<|AV 3 rfl<|AP rfl ((b1.memA .t4) 3 _ rfl)<|Ab (AK rfl (b1.memA .t1)) ?_
 have q3:=By b1 .hd
 have X2:=Bz b1 .hd
 have Y3:=BA (α:=Int) (v:=K0) (xs:=R0) q3 L (Bj (α:=Int) b1 .hd F3 hL)
 have Q3:=Tt v3 (Tt x3 (Tt V2 (Tt W2 (Tt Z1 X2))))
 have R3:=Tt V2 (Tt W2 (Tt Z1 X2))
 obtain ⟨k7,F7,x6,_⟩:=BV (Ao c2 Q3)
 obtain ⟨p7,G7,y6,_⟩:=BV (Ao g2 R3)
 obtain ⟨q7,H7,z6,_⟩:=BV Y3
 refine Ak .plain rfl (AE (α:=Tb) (xs:=([(⟨j0,g0,s2,u2,R0,false⟩:Tb)]:List Tb)) (vs:=[.agg #[.string j0,vI g0,W0,z1,K0,.bool false]]) (ds' :=[.string j0,vI g0,W0,z1,K0,.bool false]) rfl q3 el42 rfl (e1 rfl) (by rw [x6,y6,z6]; try kernel_rfl) rfl) fun J8 y7 E2 b2=>bk h fun Y6 C6 h=>?_
 have U3:=Tt d5 (Tt g5 (Tt j5 (Tt v3 (Tt x3 (Tt V2 (Tt W2 (Tt Z1 (Tt X2 b2))))))))
 refine RG.doesL .plain rfl (AW (α:=Tb) (ys:=([(⟨j0,g0,s2,u2,R0,false⟩:Tb)]:List Tb)) C6 E2 (fun _ _=>.t3) el42 rfl rfl (Au E3 U3) (Src.row (α:=Tb) E2 .hd (Ax (cs:=[.string j0,vI g0,W0,z1,K0,.bool false]) (xs:=(([(⟨j0,g0,s2,u2,R0,false⟩:Tb)]:List Tb):List Tb)) E2 L (Am (cs:=[.string j0,vI g0,W0,z1,K0,.bool false]) (ds:=[]) (mk_Tb j0 g0 s2 (Ao c2 (Tt Q3 b2)) u2 (Ao g2 (Tt R3 b2)) R0 (Ao Y3 b2) false) (AD _ _))))) fun b3 K8 ⟨v4,F2,p5,D5⟩=>AV 3 rfl<|RG.now .plain (BP (j:=3) (old:=[vI (((a0.fe % (3:UInt8)).toNat:Nat):Int),vI (((a0.fh % (4:UInt8)).toNat:Nat):Int),vI (((a0.fj % (3:UInt8)).toNat:Nat):Int),y0]) (news:=[b3]) (new' :=[vI (((a0.fe % (3:UInt8)).toNat:Nat):Int),vI (((a0.fh % (4:UInt8)).toNat:Nat):Int),vI (((a0.fj % (3:UInt8)).toNat:Nat):Int),b3]) F2 .t4 rfl rfl rfl (St.c1 (α:=Tb) F2 .t3) rfl rfl (o1 (St.o1 (α:=Tb) F2 .t3)) rfl) fun M8 R4 B3=>Aa<|AA<|Av<|Ae rfl<|bk h fun R6 q6 h=>Ab (BL (i:=z0) (j:=1) rfl rfl q6)<|Af rfl<|Aa ?_
 obtain ⟨U4,C3⟩:=AI R4 .d2
 exact y4 (R6,Y6,b3,v4) U4 (Tt c5 (Tt U3 (Tt p5 (Tt B3 C3)))) (Au D5 (Tt B3 C3)) h
 intro c3
 refine Bn [9,17] (rk c0) ⟨?_,?_,trivial⟩
 refine BI (m' :=62463) (sk c0) rfl .plain rfl (AE (α:=UInt8) (xs:=([u8ofI D0,u8ofI t0]:List UInt8)) (vs:=[.int .u8 ((u8ofI D0).toNat:Int),.int .u8 ((u8ofI t0).toNat:Int)]) (ds' :=[.int .u8 ((u8ofI D0).toNat:Int),.int .u8 ((u8ofI t0).toNat:Int)]) rfl I1 el22 rfl (e2 rfl rfl) (by kernel_rfl) rfl) fun U6 j4 J1 R2=>?_
 have B5:=Ax (cs:=[.int .u8 ((u8ofI D0).toNat:Int),.int .u8 ((u8ofI t0).toNat:Int)]) (xs:=(([u8ofI D0,u8ofI t0]:List UInt8):List UInt8)) J1 L (Am (cs:=[.int .u8 ((u8ofI D0).toNat:Int)]) (ds:=[.int .u8 ((u8ofI t0).toNat:Int)]) rfl (Am (cs:=[.int .u8 ((u8ofI t0).toNat:Int)]) (ds:=[]) rfl (AD _ _)))
 refine AG 10 63487 329728 c0 rfl q0 (FV.bytesS (xs:=([u8ofI D0,u8ofI t0]:List UInt8)) Tryz.underlying22 Tryz.underlying9 Tryz.underlying5 rfl (Src.row (α:=UInt8) J1 .hd B5)) rfl<|Ag 11 65535 c0 rfl q0 (fun _=>FV.addS Z3 rfl rfl) rfl<|Ag 16 131071 c0 rfl q0 (fun _=>AX (vs:=[.string j0,vI g0]) (u:=.agg #[.string j0,vI g0,vN,vN,vN,.bool false]) (e2 rfl rfl) (fun p=>by kernel_rfl)) rfl<|BS 17 262143 c0 rfl .plain rfl (AC [.string ⟨#[]⟩,vI 0,vN,vN,vN,.bool false] J1) fun V6 v2 B2 U2=>?_
 obtain ⟨V4,q5⟩:=AI B2 (.a0 .d1)
 exact c3 v2 V4 (Tt R2 (Tt U2 q5))
 refine BI (m' :=193023) (sk c0) rfl .plain rfl (AC [.string ⟨#[]⟩,vI 0,vN,vN,vN,.bool false] I1) fun V6 v2 B2 U2=>BS 9 193535 c0 rfl .plain rfl (AE (α:=UInt8) (xs:=([u8ofI D0,u8ofI t0]:List UInt8)) (vs:=[.int .u8 ((u8ofI D0).toNat:Int),.int .u8 ((u8ofI t0).toNat:Int)]) (ds' :=[.int .u8 ((u8ofI D0).toNat:Int),.int .u8 ((u8ofI t0).toNat:Int)]) rfl B2 el22 rfl (e2 rfl rfl) (by kernel_rfl) rfl) fun U6 j4 J1 R2=>AG 10 194559 329728 c0 rfl q0 (FV.bytesS (xs:=([u8ofI D0,u8ofI t0]:List UInt8)) Tryz.underlying22 Tryz.underlying9 Tryz.underlying5 rfl (Src.row (α:=UInt8) J1 .hd (Ax (cs:=[.int .u8 ((u8ofI D0).toNat:Int),.int .u8 ((u8ofI t0).toNat:Int)]) (xs:=(([u8ofI D0,u8ofI t0]:List UInt8):List UInt8)) J1 L (Am (cs:=[.int .u8 ((u8ofI D0).toNat:Int)]) (ds:=[.int .u8 ((u8ofI t0).toNat:Int)]) rfl (Am (cs:=[.int .u8 ((u8ofI t0).toNat:Int)]) (ds:=[]) rfl (AD _ _)))))) rfl<|Ag 11 196607 c0 rfl q0 (fun _=>FV.addS Z3 rfl rfl) rfl<|Ag 16 262143 c0 rfl q0 (fun _=>AX (vs:=[.string j0,vI g0]) (u:=.agg #[.string j0,vI g0,vN,vN,vN,.bool false]) (e2 rfl rfl) (fun p=>by kernel_rfl)) rfl ?_
 obtain ⟨W4,s5⟩:=AI J1 .d1
 exact c3 v2 W4 (Tt U2 (Tt R2 s5))
 refine Ba rfl ?_
 have h:=I5 _ h
 try dsimp only at h
 refine Aj<|Ac<|Af rfl<|Aa<|Ay ?_
 obtain ⟨Y7,K5,H5⟩:=bind_in2 h
 refine MX.lf (α:=Nat × (List Tb) × Value × (List Value)) (fun ⟨v1,Q0,p0,Y0⟩=>[(2,vP u0),(4,vP v0),(5,vP x0),(9,vI ((v1:Nat):Int))]) (fun ⟨v1,Q0,p0,Y0⟩=>[.row w.heap.size 101 (Rep.size Tb) vN (([]:List Tb).length) [],.row w.heap.size 101 (Rep.size Tb) p0 Q0.length Y0,.cells x0 [vI (((a0.fe % (3:UInt8)).toNat:Nat):Int),vI (((a0.fh % (4:UInt8)).toNat:Nat):Int),vI (((a0.fj % (3:UInt8)).toNat:Nat):Int),p0] 44,.cells v0 [vI 0,vI 0,vI 0,vN] 44,.cells u0 [.int .u8 (a0.fe.toNat:Int),.int .u8 (a0.fh.toNat:Int),.int .u8 (a0.fj.toNat:Int),.int .u8 (a0.fu.toNat:Int),v0_4] 27]) (fun ⟨v1,Q0,p0,Y0⟩ b4=>Cells b4 (bl [.row w.heap.size 101 (Rep.size Tb) vN (([]:List Tb).length) [],.row w.heap.size 101 (Rep.size Tb) p0 Q0.length Y0,.cells x0 [vI (((a0.fe % (3:UInt8)).toNat:Nat):Int),vI (((a0.fh % (4:UInt8)).toNat:Nat):Int),vI (((a0.fj % (3:UInt8)).toNat:Nat):Int),p0] 44,.cells v0 [vI 0,vI 0,vI 0,vN] 44,.cells u0 [.int .u8 (a0.fe.toNat:Int),.int .u8 (a0.fh.toNat:Int),.int .u8 (a0.fj.toNat:Int),.int .u8 (a0.fu.toNat:Int),v0_4] 27] ++ L) Y0 Q0) (fun ⟨v1,Q0,p0,Y0⟩=>(v1,Q0)) (0,X0,y0,Z0) K5 I1 E3 ?_
 rintro s7 ⟨v1,Q0,p0,Y0⟩ b4 x4 U0 X4 D3 h
 unfold ac_l2 at h
 try dsimp only at h
 refine Aj<|Ac<|Ae rfl<|AV 3 rfl<|AP rfl ((U0.memA .t4) 3 _ rfl)<|Ab (FV.rem8 (a:=a0.fu) (b:=(2:UInt8)) rfl rfl (by decide)) ?_
 have U7:=(a0.fu % (2:UInt8)).toNat_lt
 refine Ab (FV.convN (i:=(a0.fu % (2:UInt8)).toNat) Tryz.underlying5 Tryz.underlying3 rfl (by omega))<|Ab (Bu (i:=v1) (j:=(a0.fu % (2:UInt8)).toNat) rfl rfl)<|Aa<|AS rfl h (fun k4 h=>?_) (fun k4 h=>?_)
 refine Aq<|Aj<|Ay<|dt 13 tb32_16 fun b0 A1=>Ag 0 1 b0 rfl A1 (fun _=>Bd 3 rfl) rfl<|AG 1 3 57344 b0 rfl A1 (AL rfl ((U0.memA .t2) 3 _ rfl)) rfl<|Ag 2 7 b0 rfl A1 (fun _=>Bd 0 rfl) rfl<|AG 3 15 63504 b0 rfl A1 (AL rfl ((U0.memA .t2) 0 _ rfl)) rfl<|Ag 5 47 b0 rfl A1 (fun _=>Bd 1 rfl) rfl<|AG 6 111 63616 b0 rfl A1 (AL rfl ((U0.memA .t2) 1 _ rfl)) rfl<|Ag 8 367 b0 rfl A1 (fun _=>Bd 2 rfl) rfl<|AG 9 879 64512 b0 rfl A1 (AL rfl ((U0.memA .t2) 2 _ rfl)) rfl<|bk h fun H0 q1 h=>bk h fun I0 s1 h=>bk h fun J0 u1 h=>RD.mf (α:=Value × (List Value) × Value × (List Value) × Value × (List Value)) (fun ⟨E0,B1,F0,C1,G0,D1⟩=>[(2,vP u0),(4,vP v0),(5,vP x0),(9,vI ((v1:Nat):Int)),(97,p0),(100,G0),(103,F0),(106,E0)]) (fun ⟨E0,B1,F0,C1,G0,D1⟩=>[.row w.heap.size 3 (Rep.size Int) E0 J0.length B1,.row w.heap.size 3 (Rep.size Int) F0 I0.length C1,.row w.heap.size 3 (Rep.size Int) G0 H0.length D1,.row w.heap.size 101 (Rep.size Tb) vN (([]:List Tb).length) [],.row w.heap.size 101 (Rep.size Tb) p0 Q0.length Y0,.cells x0 [vI (((a0.fe % (3:UInt8)).toNat:Nat):Int),vI (((a0.fh % (4:UInt8)).toNat:Nat):Int),vI (((a0.fj % (3:UInt8)).toNat:Nat):Int),p0] 44,.cells v0 [vI 0,vI 0,vI 0,vN] 44,.cells u0 [.int .u8 (a0.fe.toNat:Int),.int .u8 (a0.fh.toNat:Int),.int .u8 (a0.fj.toNat:Int),.int .u8 (a0.fu.toNat:Int),v0_4] 27]) (fun ⟨E0,B1,F0,C1,G0,D1⟩ q2=>Cells q2 (bl [.row w.heap.size 3 (Rep.size Int) E0 J0.length B1,.row w.heap.size 3 (Rep.size Int) F0 I0.length C1,.row w.heap.size 3 (Rep.size Int) G0 H0.length D1,.row w.heap.size 101 (Rep.size Tb) vN (([]:List Tb).length) [],.row w.heap.size 101 (Rep.size Tb) p0 Q0.length Y0,.cells x0 [vI (((a0.fe % (3:UInt8)).toNat:Nat):Int),vI (((a0.fh % (4:UInt8)).toNat:Nat):Int),vI (((a0.fj % (3:UInt8)).toNat:Nat):Int),p0] 44,.cells v0 [vI 0,vI 0,vI 0,vN] 44,.cells u0 [.int .u8 (a0.fe.toNat:Int),.int .u8 (a0.fh.toNat:Int),.int .u8 (a0.fj.toNat:Int),.int .u8 (a0.fu.toNat:Int),v0_4] 27] ++ L) B1 (J0:List Int)/\Cells q2 (bl [.row w.heap.size 3 (Rep.size Int) E0 J0.length B1,.row w.heap.size 3 (Rep.size Int) F0 I0.length C1,.row w.heap.size 3 (Rep.size Int) G0 H0.length D1,.row w.heap.size 101 (Rep.size Tb) vN (([]:List Tb).length) [],.row w.heap.size 101 (Rep.size Tb) p0 Q0.length Y0,.cells x0 [vI (((a0.fe % (3:UInt8)).toNat:Nat):Int),vI (((a0.fh % (4:UInt8)).toNat:Nat):Int),vI (((a0.fj % (3:UInt8)).toNat:Nat):Int),p0] 44,.cells v0 [vI 0,vI 0,vI 0,vN] 44,.cells u0 [.int .u8 (a0.fe.toNat:Int),.int .u8 (a0.fh.toNat:Int),.int .u8 (a0.fj.toNat:Int),.int .u8 (a0.fu.toNat:Int),v0_4] 27] ++ L) C1 (I0:List Int)/\Cells q2 (bl [.row w.heap.size 3 (Rep.size Int) E0 J0.length B1,.row w.heap.size 3 (Rep.size Int) F0 I0.length C1,.row w.heap.size 3 (Rep.size Int) G0 H0.length D1,.row w.heap.size 101 (Rep.size Tb) vN (([]:List Tb).length) [],.row w.heap.size 101 (Rep.size Tb) p0 Q0.length Y0,.cells x0 [vI (((a0.fe % (3:UInt8)).toNat:Nat):Int),vI (((a0.fh % (4:UInt8)).toNat:Nat):Int),vI (((a0.fj % (3:UInt8)).toNat:Nat):Int),p0] 44,.cells v0 [vI 0,vI 0,vI 0,vN] 44,.cells u0 [.int .u8 (a0.fe.toNat:Int),.int .u8 (a0.fh.toNat:Int),.int .u8 (a0.fj.toNat:Int),.int .u8 (a0.fu.toNat:Int),v0_4] 27] ++ L) D1 (H0:List Int)) U0 5 2047 ?_ ?_
 rintro ⟨E0,B1,F0,C1,G0,D1⟩ q2 P1 Y4 ⟨x5,y5,z5⟩
 try dsimp only
 obtain ⟨Z6,z7,E5⟩:=St.rowV (α:=Int) P1 .t2
 obtain ⟨b7,A7,F5⟩:=St.rowV (α:=Int) P1 .t1
 obtain ⟨c7,B7,G5⟩:=St.rowV (α:=Int) P1 .hd
 refine Ag 11 4095 b0 rfl A1 (fun _=>AX (vs:=[.string ⟨#[115,101,97]⟩,.bool true,G0,F0,E0]) (u:=.agg #[.string ⟨#[115,101,97]⟩,vI 0,G0,F0,E0,.bool true]) (e5 rfl rfl rfl rfl rfl) (fun p=>by rw [E5,F5,G5]; try kernel_rfl)) rfl ?_
 have U1:=By P1 .t2
 have G2:=Bz P1 .t2
 have V3:=BA (α:=Int) (v:=G0) (xs:=H0) U1 L (Bj (α:=Int) P1 .t2 z5 hL)
 have V1:=By U1 .t1
 have H2:=Bz U1 .t1
 have W3:=BA (α:=Int) (v:=F0) (xs:=I0) V1 L (Bj (α:=Int) U1 .t1 (Au y5 G2) hL)
 have d3:=By V1 .hd
 have Y1:=Bz V1 .hd
 have X3:=BA (α:=Int) (v:=E0) (xs:=J0) d3 L (Bj (α:=Int) V1 .hd (Au x5 (Tt G2 H2)) hL)
 obtain ⟨d7,C7,s6,_⟩:=BV (Ao V3 (Tt H2 Y1))
 obtain ⟨g7,D7,u6,_⟩:=BV (Ao W3 Y1)
 obtain ⟨j7,E7,v6,_⟩:=BV X3
 refine BS 12 8191 b0 rfl .plain rfl (AE (α:=Tb) (xs:=([(⟨⟨#[115,101,97]⟩,(0:Int),H0,I0,J0,true⟩:Tb)]:List Tb)) (vs:=[.agg #[.string ⟨#[115,101,97]⟩,vI 0,G0,F0,E0,.bool true]]) (ds' :=[.string ⟨#[115,101,97]⟩,vI 0,G0,F0,E0,.bool true]) rfl d3 el42 rfl (e1 rfl) (by rw [s6,u6,v6]; try kernel_rfl) rfl) fun s8 v7 x2 I2=>?_
 have G3:=Tt H2 (Tt Y1 I2)
 refine bk h fun W6 A6 h=>?_
 have H3:=Tt Y4 (Tt G2 G3)
 refine Be (i:=13) (rk b0) (Bs (m' :=16383) (sk b0) rfl rfl .plain rfl (AW (α:=Tb) (ys:=([(⟨⟨#[115,101,97]⟩,(0:Int),H0,I0,J0,true⟩:Tb)]:List Tb)) A6 x2 (fun _ _=>.t2) el42 rfl rfl (Au D3 H3) (Src.row (α:=Tb) x2 .hd (Ax (cs:=[.string ⟨#[115,101,97]⟩,vI 0,G0,F0,E0,.bool true]) (xs:=(([(⟨⟨#[115,101,97]⟩,(0:Int),H0,I0,J0,true⟩:Tb)]:List Tb):List Tb)) x2 L (Am (cs:=[.string ⟨#[115,101,97]⟩,vI 0,G0,F0,E0,.bool true]) (ds:=[]) (mk_Tb ⟨#[115,101,97]⟩ (0:Int) H0 (Ao V3 G3) I0 (Ao W3 (Tt Y1 I2)) J0 (Ao X3 I2) true) (AD _ _))))) (fun Y2 t8 ⟨s4,y2,Z4,A5⟩=>?_))
 refine Be (i:=14) (rk b0) (Bq (m' :=32767) (sk b0) rfl .plain rfl (Bd 3 rfl) ?_)
 refine BJ 15 65535 b0 rfl rfl .plain (BP (j:=3) (old:=[vI (((a0.fe % (3:UInt8)).toNat:Nat):Int),vI (((a0.fh % (4:UInt8)).toNat:Nat):Int),vI (((a0.fj % (3:UInt8)).toNat:Nat):Int),p0]) (news:=[Y2]) (new' :=[vI (((a0.fe % (3:UInt8)).toNat:Nat):Int),vI (((a0.fh % (4:UInt8)).toNat:Nat):Int),vI (((a0.fj % (3:UInt8)).toNat:Nat):Int),Y2]) y2 .t3 rfl rfl rfl (St.c1 (α:=Tb) y2 .t2) rfl rfl (o1 (St.o1 (α:=Tb) y2 .t2)) rfl) fun v8 A4 s3=>AM (dk b0)<|AA<|Av<|Ae rfl<|Ab (Bw (i:=v1) (j:=1) rfl rfl (by omega))<|Af rfl<|Aa ?_
 obtain ⟨B4,u3⟩:=AI A4 .d1
 exact x4 (v1 + 1,W6,Y2,s4) B4 (Tt X4 (Tt H3 (Tt Z4 (Tt s3 u3)))) (Au A5 (Tt s3 u3)) h
 intro M1
 refine Bn [4,7,10] (rk b0) ⟨?_,?_,?_,trivial⟩
 refine BI (m' :=895) (sk b0) rfl .plain rfl (Does.mk (α:=Int) q1 U0 el45 rfl) fun j2 g1 A0 V0=>?_
 have E1:=Ax (cs:=(List.replicate (((a0.fe % (3:UInt8)).toNat:Nat):Int).toNat [vI 0]).flatten) (xs:=H0) A0 L (Cells.mk q1 rfl)
 refine Bn [7,10] (rk b0) ⟨?_,?_,trivial⟩
 refine BI (m' :=1023) (sk b0) rfl .plain rfl (Does.mk (α:=Int) s1 A0 el45 rfl) fun k2 j1 B0 M0=>?_
 have F1:=Ax (cs:=(List.replicate (((a0.fh % (4:UInt8)).toNat:Nat):Int).toNat [vI 0]).flatten) (xs:=I0) B0 L (Cells.mk s1 rfl)
 refine BS 10 2047 b0 rfl .plain rfl (Does.mk (α:=Int) u1 B0 el45 rfl) fun p2 k1 C0 P0=>?_
 have p1:=Ax (cs:=(List.replicate (((a0.fj % (3:UInt8)).toNat:Nat):Int).toNat [vI 0]).flatten) (xs:=J0) C0 L (Cells.mk u1 rfl)
 exact M1 ((.slice (some ⟨k1,0,none⟩) (((a0.fj % (3:UInt8)).toNat:Nat):Int).toNat (((a0.fj % (3:UInt8)).toNat:Nat):Int).toNat),(List.replicate (((a0.fj % (3:UInt8)).toNat:Nat):Int).toNat [vI 0]).flatten,(.slice (some ⟨j1,0,none⟩) (((a0.fh % (4:UInt8)).toNat:Nat):Int).toNat (((a0.fh % (4:UInt8)).toNat:Nat):Int).toNat),(List.replicate (((a0.fh % (4:UInt8)).toNat:Nat):Int).toNat [vI 0]).flatten,(.slice (some ⟨g1,0,none⟩) (((a0.fe % (3:UInt8)).toNat:Nat):Int).toNat (((a0.fe % (3:UInt8)).toNat:Nat):Int).toNat),(List.replicate (((a0.fe % (3:UInt8)).toNat:Nat):Int).toNat [vI 0]).flatten) C0 (Tt V0 (Tt M0 P0)) ⟨p1,(Au F1 P0),(Au E1 (Tt M0 P0))⟩
 refine BI (m' :=1919) (sk b0) rfl .plain rfl (Does.mk (α:=Int) u1 A0 el45 rfl) fun p2 k1 C0 P0=>?_
 have p1:=Ax (cs:=(List.replicate (((a0.fj % (3:UInt8)).toNat:Nat):Int).toNat [vI 0]).flatten) (xs:=J0) C0 L (Cells.mk u1 rfl)
 refine BS 7 2047 b0 rfl .plain rfl (Does.mk (α:=Int) s1 C0 el45 rfl) fun k2 j1 B0 M0=>?_
 have F1:=Ax (cs:=(List.replicate (((a0.fh % (4:UInt8)).toNat:Nat):Int).toNat [vI 0]).flatten) (xs:=I0) B0 L (Cells.mk s1 rfl)
 obtain ⟨C4,J2⟩:=AI B0 (.a1 .d0)
 have I3:=Tt P0 (Tt M0 J2)
 exact M1 ((.slice (some ⟨k1,0,none⟩) (((a0.fj % (3:UInt8)).toNat:Nat):Int).toNat (((a0.fj % (3:UInt8)).toNat:Nat):Int).toNat),(List.replicate (((a0.fj % (3:UInt8)).toNat:Nat):Int).toNat [vI 0]).flatten,(.slice (some ⟨j1,0,none⟩) (((a0.fh % (4:UInt8)).toNat:Nat):Int).toNat (((a0.fh % (4:UInt8)).toNat:Nat):Int).toNat),(List.replicate (((a0.fh % (4:UInt8)).toNat:Nat):Int).toNat [vI 0]).flatten,(.slice (some ⟨g1,0,none⟩) (((a0.fe % (3:UInt8)).toNat:Nat):Int).toNat (((a0.fe % (3:UInt8)).toNat:Nat):Int).toNat),(List.replicate (((a0.fe % (3:UInt8)).toNat:Nat):Int).toNat [vI 0]).flatten) C4 (Tt V0 I3) ⟨(Au p1 (Tt M0 J2)),(Au F1 J2),(Au E1 I3)⟩
 refine BI (m' :=1007) (sk b0) rfl .plain rfl (Does.mk (α:=Int) s1 U0 el45 rfl) fun k2 j1 B0 M0=>?_
 have F1:=Ax (cs:=(List.replicate (((a0.fh % (4:UInt8)).toNat:Nat):Int).toNat [vI 0]).flatten) (xs:=I0) B0 L (Cells.mk s1 rfl)
 refine Bn [4,10] (rk b0) ⟨?_,?_,trivial⟩
 refine BI (m' :=1023) (sk b0) rfl .plain rfl (Does.mk (α:=Int) q1 B0 el45 rfl) fun j2 g1 A0 V0=>?_
 have E1:=Ax (cs:=(List.replicate (((a0.fe % (3:UInt8)).toNat:Nat):Int).toNat [vI 0]).flatten) (xs:=H0) A0 L (Cells.mk q1 rfl)
 refine BS 10 2047 b0 rfl .plain rfl (Does.mk (α:=Int) u1 A0 el45 rfl) fun p2 k1 C0 P0=>?_
 have p1:=Ax (cs:=(List.replicate (((a0.fj % (3:UInt8)).toNat:Nat):Int).toNat [vI 0]).flatten) (xs:=J0) C0 L (Cells.mk u1 rfl)
 obtain ⟨D4,K2⟩:=AI C0 (.a0 (.a1 .d0))
 have J3:=Tt V0 (Tt P0 K2)
 exact M1 ((.slice (some ⟨k1,0,none⟩) (((a0.fj % (3:UInt8)).toNat:Nat):Int).toNat (((a0.fj % (3:UInt8)).toNat:Nat):Int).toNat),(List.replicate (((a0.fj % (3:UInt8)).toNat:Nat):Int).toNat [vI 0]).flatten,(.slice (some ⟨j1,0,none⟩) (((a0.fh % (4:UInt8)).toNat:Nat):Int).toNat (((a0.fh % (4:UInt8)).toNat:Nat):Int).toNat),(List.replicate (((a0.fh % (4:UInt8)).toNat:Nat):Int).toNat [vI 0]).flatten,(.slice (some ⟨g1,0,none⟩) (((a0.fe % (3:UInt8)).toNat:Nat):Int).toNat (((a0.fe % (3:UInt8)).toNat:Nat):Int).toNat),(List.replicate (((a0.fe % (3:UInt8)).toNat:Nat):Int).toNat [vI 0]).flatten) D4 (Tt M0 J3) ⟨(Au p1 K2),(Au F1 J3),(Au E1 (Tt P0 K2))⟩
 refine BI (m' :=2031) (sk b0) rfl .plain rfl (Does.mk (α:=Int) u1 B0 el45 rfl) fun p2 k1 C0 P0=>?_
 have p1:=Ax (cs:=(List.replicate (((a0.fj % (3:UInt8)).toNat:Nat):Int).toNat [vI 0]).flatten) (xs:=J0) C0 L (Cells.mk u1 rfl)
 refine BS 4 2047 b0 rfl .plain rfl (Does.mk (α:=Int) q1 C0 el45 rfl) fun j2 g1 A0 V0=>?_
 have E1:=Ax (cs:=(List.replicate (((a0.fe % (3:UInt8)).toNat:Nat):Int).toNat [vI 0]).flatten) (xs:=H0) A0 L (Cells.mk q1 rfl)
 obtain ⟨E4,M2⟩:=AI A0 (.a1 (.a1 .d0))
 have K3:=Tt P0 (Tt V0 M2)
 exact M1 ((.slice (some ⟨k1,0,none⟩) (((a0.fj % (3:UInt8)).toNat:Nat):Int).toNat (((a0.fj % (3:UInt8)).toNat:Nat):Int).toNat),(List.replicate (((a0.fj % (3:UInt8)).toNat:Nat):Int).toNat [vI 0]).flatten,(.slice (some ⟨j1,0,none⟩) (((a0.fh % (4:UInt8)).toNat:Nat):Int).toNat (((a0.fh % (4:UInt8)).toNat:Nat):Int).toNat),(List.replicate (((a0.fh % (4:UInt8)).toNat:Nat):Int).toNat [vI 0]).flatten,(.slice (some ⟨g1,0,none⟩) (((a0.fe % (3:UInt8)).toNat:Nat):Int).toNat (((a0.fe % (3:UInt8)).toNat:Nat):Int).toNat),(List.replicate (((a0.fe % (3:UInt8)).toNat:Nat):Int).toNat [vI 0]).flatten) E4 (Tt M0 K3) ⟨(Au p1 (Tt V0 M2)),(Au F1 K3),(Au E1 M2)⟩
 refine BI (m' :=1903) (sk b0) rfl .plain rfl (Does.mk (α:=Int) u1 U0 el45 rfl) fun p2 k1 C0 P0=>?_
 have p1:=Ax (cs:=(List.replicate (((a0.fj % (3:UInt8)).toNat:Nat):Int).toNat [vI 0]).flatten) (xs:=J0) C0 L (Cells.mk u1 rfl)
 refine Bn [4,7] (rk b0) ⟨?_,?_,trivial⟩
 refine BI (m' :=1919) (sk b0) rfl .plain rfl (Does.mk (α:=Int) q1 C0 el45 rfl) fun j2 g1 A0 V0=>?_
 have E1:=Ax (cs:=(List.replicate (((a0.fe % (3:UInt8)).toNat:Nat):Int).toNat [vI 0]).flatten) (xs:=H0) A0 L (Cells.mk q1 rfl)
 refine BS 7 2047 b0 rfl .plain rfl (Does.mk (α:=Int) s1 A0 el45 rfl) fun k2 j1 B0 M0=>?_
 have F1:=Ax (cs:=(List.replicate (((a0.fh % (4:UInt8)).toNat:Nat):Int).toNat [vI 0]).flatten) (xs:=I0) B0 L (Cells.mk s1 rfl)
 obtain ⟨F4,P2⟩:=AI B0 (.a2 .d0)
 have M3:=Tt V0 (Tt M0 P2)
 exact M1 ((.slice (some ⟨k1,0,none⟩) (((a0.fj % (3:UInt8)).toNat:Nat):Int).toNat (((a0.fj % (3:UInt8)).toNat:Nat):Int).toNat),(List.replicate (((a0.fj % (3:UInt8)).toNat:Nat):Int).toNat [vI 0]).flatten,(.slice (some ⟨j1,0,none⟩) (((a0.fh % (4:UInt8)).toNat:Nat):Int).toNat (((a0.fh % (4:UInt8)).toNat:Nat):Int).toNat),(List.replicate (((a0.fh % (4:UInt8)).toNat:Nat):Int).toNat [vI 0]).flatten,(.slice (some ⟨g1,0,none⟩) (((a0.fe % (3:UInt8)).toNat:Nat):Int).toNat (((a0.fe % (3:UInt8)).toNat:Nat):Int).toNat),(List.replicate (((a0.fe % (3:UInt8)).toNat:Nat):Int).toNat [vI 0]).flatten) F4 (Tt P0 M3) ⟨(Au p1 M3),(Au F1 P2),(Au E1 (Tt M0 P2))⟩
 refine BI (m' :=2031) (sk b0) rfl .plain rfl (Does.mk (α:=Int) s1 C0 el45 rfl) fun k2 j1 B0 M0=>BS 4 2047 b0 rfl .plain rfl (Does.mk (α:=Int) q1 B0 el45 rfl) fun j2 g1 A0 V0=>?_
 obtain ⟨G4,Q2⟩:=AI A0 (.a2 (.a1 .d0))
 have P3:=Tt M0 (Tt V0 Q2)
 exact M1 ((.slice (some ⟨k1,0,none⟩) (((a0.fj % (3:UInt8)).toNat:Nat):Int).toNat (((a0.fj % (3:UInt8)).toNat:Nat):Int).toNat),(List.replicate (((a0.fj % (3:UInt8)).toNat:Nat):Int).toNat [vI 0]).flatten,(.slice (some ⟨j1,0,none⟩) (((a0.fh % (4:UInt8)).toNat:Nat):Int).toNat (((a0.fh % (4:UInt8)).toNat:Nat):Int).toNat),(List.replicate (((a0.fh % (4:UInt8)).toNat:Nat):Int).toNat [vI 0]).flatten,(.slice (some ⟨g1,0,none⟩) (((a0.fe % (3:UInt8)).toNat:Nat):Int).toNat (((a0.fe % (3:UInt8)).toNat:Nat):Int).toNat),(List.replicate (((a0.fe % (3:UInt8)).toNat:Nat):Int).toNat [vI 0]).flatten) G4 (Tt P0 P3) ⟨(Au p1 P3),(Au (Ax (cs:=(List.replicate (((a0.fh % (4:UInt8)).toNat:Nat):Int).toNat [vI 0]).flatten) (xs:=I0) B0 L (Cells.mk s1 rfl)) (Tt V0 Q2)),(Au (Ax (cs:=(List.replicate (((a0.fe % (3:UInt8)).toNat:Nat):Int).toNat [vI 0]).flatten) (xs:=H0) A0 L (Cells.mk q1 rfl)) Q2)⟩
 refine Ba rfl ?_
 have h:=H5 _ h
 try dsimp only at h
 refine Ac<|Ab (AK rfl (U0.memA .t2))<|AQ [vI (((a0.fe % (3:UInt8)).toNat:Nat):Int),vI (((a0.fh % (4:UInt8)).toNat:Nat):Int),vI (((a0.fj % (3:UInt8)).toNat:Nat):Int),p0] U0 .t3 (o4 rfl rfl rfl (St.o1 (α:=Tb) U0 .t1)) fun x8 z2 b5=>Aa<|Al rfl ?_
 have W1:=By z2 .t1
 have I7:=Bz z2 .t1
 have Q5:=BA (α:=Tb) (v:=p0) (xs:=Q0) W1 L (Bj (α:=Tb) z2 .t1 (Au D3 b5) hL)
 refine Ap hb0 Tryz.func32 rfl (.cons (.many (cs:=[vI (((a0.fe % (3:UInt8)).toNat:Nat):Int),vI (((a0.fh % (4:UInt8)).toNat:Nat):Int),vI (((a0.fj % (3:UInt8)).toNat:Nat):Int),p0]) (by kernel_rfl) rfl (W1.memA .t2)) .nil) rfl ?_
 cases h
 exact ⟨W1.ag,fun p q=>⟨p0,rfl,W1.kd Q5 q⟩⟩
structure Tl where
  fE:UInt8
  fAt:UInt8
  fN:Int
  deriving DecidableEq
instance:Rep Tl:=Rep.via (β:=UInt8 × UInt8 × Int) fun x=>(x.fE,x.fAt,x.fN)
def tb33_5:List (Nat × Nat × Nat):=[(0,16384,32),(0,32768,4),(2,65536,32768),(4,131072,65536),(0,262144,32),(16,524288,262144),(40,1048576,655360),(0,2097152,4),(128,4194304,2097152),(511,8388608,1064960),(1023,0,12582912)]
def bX_p (_n:Nat) (a0:Tl) (a1:List Int):Option (List Int):=
  (app ([]:List Int) a1).bind fun b0=>(if ((a0.fE % (4:UInt8)).toNat) = 0 then (remI ((a0.fAt.toNat:Nat):Int) ((b0.length:Nat):Int)).bind fun c0=>(idx b0 c0).bind fun _x37=>(put b0 ((c0.toNat:Nat):Int) a0.fN).bind fun d0=>some d0 else (if ((a0.fE % (4:UInt8)).toNat) = 1 then (app b0 ([a0.fN]:List Int)).bind fun g0=>some g0 else (if ((a0.fE % (4:UInt8)).toNat) = 2 then (cut b0 0 (((b0.length:Nat):Int) - 1)).bind fun j0=>some j0 else some b0)))
theorem bX_c (n:Nat) (L:List Nat) (w:World) (hL:∀ b ∈ L,b < w.heap.size) (a0:Tl) {a1:List Int} {v1_0:Value} (h1_0:Rep.R w L [v1_0] a1)  {r:List Int} (h:bX_p n a0 a1 = some r) :
    Calls Tryz.prog 33 #[.agg #[.int .u8 (a0.fE.toNat:Int),.int .u8 (a0.fAt.toNat:Int),vI a0.fN],v1_0] w (Gives w fun w' u=>∃ v0_0:Value,u = v0_0/\Rep.R w' L [v0_0] r):=by
 unfold bX_p at h
 refine AF Tryz.func33 rfl rfl rfl fun _ cs0 hb0=>Ac<|RG.bx (AB w) rfl rfl fun d2 B1 A0 K1=>Af rfl<|Aa<|Ac<|Af rfl<|Aa<|Ac<|Ae rfl<|Ae rfl ?_
 have p0:=A0.nilRow 3 (Rep.size Int)
 have M1:=St.nilRowT A0 3 (Rep.size Int)
 refine bk h fun g0 k1 h=>RG.doesL .plain rfl (AW (α:=Int) (ys:=a1) k1 p0 (fun _ _=>.hd) el46 rfl rfl (Ax (cs:=[]) (xs:=([]:List Int)) p0 L (AD _ _)) (BG (AO h1_0 p0))) fun k0 g2 ⟨H1,b0,P1,j0⟩=>Af rfl<|Aa<|Aj<|Ac<|AV 0 rfl<|AP rfl ((b0.memA .t1) 0 _ rfl)<|Ab (FV.rem8 (a:=a0.fE) (b:=(4:UInt8)) rfl rfl (by decide))<|Aa<|Ay<|Ac<|Ab (BQ (i:=(a0.fE % (4:UInt8)).toNat) (j:=0) rfl rfl)<|Af rfl<|Aa<|AS rfl h (fun H0 h=>?_) (fun H0 h=>?_)
 refine dt 10 tb33_5 fun c0 d0=>Ag 0 1 c0 rfl d0 (fun _=>Ai rfl) rfl<|Ag 1 3 c0 rfl d0 (fun _=>Bd 1 rfl) rfl<|AG 2 7 1608 c0 rfl d0 (AL rfl ((b0.memA .t1) 1 _ rfl)) rfl ?_
 have c2:=a0.fAt.toNat_lt
 refine Ag 3 15 c0 rfl d0 (fun _=>FV.convN (i:=a0.fAt.toNat) Tryz.underlying5 Tryz.underlying3 rfl (by omega)) rfl<|Ag 4 31 c0 rfl d0 (fun _=>Ai rfl) rfl ?_
 have Y1:g0.length <= 4294967296:=St.rowLe (α:=Int) b0 .hd
 obtain ⟨z1,D1,R0⟩:=St.rowV (α:=Int) b0 .hd
 refine AG 5 63 1600 c0 rfl d0 (FV.lenV Tryz.underlying46 rfl R0) rfl<|bk h fun D0 d1 h=>Ag 6 127 c0 rfl d0 (fun _=>FV.remc (i:=((a0.fAt.toNat:Nat):Int)) (j:=((g0.length:Nat):Int)) rfl rfl d1) rfl<|Ag 7 255 c0 rfl d0 (fun _=>Bd 2 rfl) rfl<|AG 8 511 1536 c0 rfl d0 (AL rfl ((b0.memA .t1) 2 _ rfl)) rfl<|bk h fun v1 g1 h=>?_
 obtain ⟨W0,j1⟩:=idx_in g1
 obtain ⟨F0,E1,z0,C0,K0,X0,b2⟩:=St.nth (α:=Int) b0 .hd j0 j1
 obtain ⟨G0,F1,B0⟩:=BU (α:=Int) b0 .hd C0
 obtain rfl:F0 = ⟨G0,0,none⟩:=by rw [B0] at z0; cases z0; rfl
 have U0:K0 = [vI v1]:=X0; subst U0
 refine Ag 9 1023 c0 rfl d0 (fun _=>Bm 1 (D0.toNat) rfl z0 rfl W0 C0) rfl<|bk h fun x1 p1 h=>Be (i:=10) (rk c0) (RO.acts (m' :=2047) (sk c0) rfl rfl .plain (Acts.set (α:=Int) (i:=D0.toNat) p1 b0 B0 (fun _=>.hd) j0 rfl rfl rfl rfl rfl (by kernel_rfl)) (fun j2 ⟨I1,q0,Q1,P0⟩=>?_))
 refine AM (dk c0)<|AA<|Ac<|Ae rfl<|Af rfl<|Aa<|Al rfl ?_
 have s0:=By q0 .hd
 have R1:=Bz q0 .hd
 have Y0:=BA (α:=Int) (v:=k0) (xs:=x1) s0 L (Bj (α:=Int) q0 .hd P0 hL)
 refine AT hb0 Tryz.func33 rfl rfl ?_
 cases h
 exact ⟨s0.ag,fun p q=>⟨k0,rfl,s0.kd Y0 q⟩⟩
 refine Ac<|Ab (BQ (i:=(a0.fE % (4:UInt8)).toNat) (j:=1) rfl rfl)<|Af rfl<|Aa<|AS rfl h (fun I0 h=>?_) (fun I0 h=>?_)
 refine Av<|Ae rfl<|AV 2 rfl<|AP rfl ((b0.memA .t1) 2 _ rfl)<|Ak .plain rfl (AE (α:=Int) (xs:=([a0.fN]:List Int)) (vs:=[vI a0.fN]) (ds' :=[vI a0.fN]) rfl b0 el46 rfl (e1 rfl) (by kernel_rfl) rfl) fun k2 C1 t0 M0=>bk h fun y1 q1 h=>RG.doesL .plain rfl (AW (α:=Int) (ys:=([a0.fN]:List Int)) q1 t0 (fun _ _=>.t1) el46 rfl rfl (Au j0 M0) (Src.row (α:=Int) t0 .hd (Ax (cs:=[vI a0.fN]) (xs:=(([a0.fN]:List Int):List Int)) t0 L (Am (cs:=[vI a0.fN]) (ds:=[]) rfl (AD _ _))))) fun E0 p2 ⟨J1,u0,U1,Q0⟩=>Af rfl<|Aa<|AA<|Ac<|Ae rfl<|Af rfl<|Aa<|Al rfl ?_
 have v0:=By u0 .t1
 have V1:=Bz u0 .t1
 have Z0:=BA (α:=Int) (v:=E0) (xs:=y1) v0 L (Bj (α:=Int) u0 .t1 Q0 hL)
 refine AT hb0 Tryz.func33 rfl rfl ?_
 cases h
 exact ⟨v0.ag,fun p q=>⟨E0,rfl,v0.kd Z0 q⟩⟩
 refine Ac<|Ab (BQ (i:=(a0.fE % (4:UInt8)).toNat) (j:=2) rfl rfl)<|Af rfl<|Aa<|AS rfl h (fun J0 h=>?_) (fun J0 h=>?_)
 refine Av<|Ae rfl<|Ae rfl ?_
 have Z1:g0.length <= 4294967296:=St.rowLe (α:=Int) b0 .hd
 obtain ⟨A1,G1,V0⟩:=St.rowV (α:=Int) b0 .hd
 refine Ab (FV.lenV Tryz.underlying46 rfl V0)<|Ab (FV.subI (i:=((g0.length:Nat):Int)) (j:=1) rfl rfl (by omega)) ?_
 have x0:=By b0 .hd
 have W1:=Bz b0 .hd
 refine bk h fun q2 s1 h=>RG.valE .plain rfl (FV.cutL (α:=Int) s1 (by kernel_rfl) rfl (BA (α:=Int) (v:=k0) (xs:=g0) x0 L (Bj (α:=Int) b0 .hd j0 hL)) rfl ⟨_,rfl⟩) fun u1 b1=>Af rfl<|Aa<|AA<|Ac<|Ae rfl<|Af rfl<|Aa<|Al rfl<|AT hb0 Tryz.func33 rfl rfl ?_
 cases h
 exact ⟨x0.ag,fun p q=>⟨u1,rfl,x0.kd b1 q⟩⟩
 refine Aq<|AA<|Ac<|Ae rfl<|Af rfl<|Aa<|Al rfl ?_
 have y0:=By b0 .hd
 have X1:=Bz b0 .hd
 have c1:=BA (α:=Int) (v:=k0) (xs:=g0) y0 L (Bj (α:=Int) b0 .hd j0 hL)
 refine AT hb0 Tryz.func33 rfl rfl ?_
 cases h
 exact ⟨y0.ag,fun p q=>⟨k0,rfl,y0.kd c1 q⟩⟩
def tb34_5:List (Nat × Nat × Nat):=[(0,262144,32),(1,524288,262144),(0,1048576,4),(4,2097152,1048576),(8,4194304,2097152),(0,8388608,32),(32,16777216,8388608),(64,33554432,16777216),(144,67108864,37748736),(258,134217728,67633152),(1023,64,134217728)]
def tb34_11:List (Nat × Nat × Nat):=[(0,70368744177664,64),(0,140737488355328,4),(2,281474976710656,140737488355328),(4,562949953421312,281474976710656),(0,1125899906842624,64),(16,2251799813685248,1125899906842624),(32,4503599627370496,2251799813685248),(64,9007199254740992,4503599627370496),(136,18014398509481984,9570149208162304),(511,36028797018963968,70368744177664),(1023,72057594037927936,36028797018963968),(1535,0,90071992547409920)]
def tb34_13:List (Nat × Nat × Nat):=[(0,576460752303423488,64),(0,1152921504606846976,0),(0,2305843009213693952,64),(4,4611686018427387904,2305843009213693952),(8,9223372036854775808,4611686018427387904),(16,18446744073709551616,9223372036854775808),(34,36893488147419103232,19599665578316398592),(0,73786976294838206464,4),(128,147573952589676412928,73786976294838206464),(256,295147905179352825856,147573952589676412928),(576,590295810358705651712,332041393326771929088),(2047,1180591620717411303424,576460752303423488),(4095,2361183241434822606848,1180591620717411303424),(6143,0,2951479051793528258560)]
def bY_p (_n:Nat) (a0:Tl) (a1:Tc):Option Tc:=
  (app ([]:List Tb) a1.fo).bind fun c0=>(if c0.length = 0 then some (⟨a1.fe,a1.fh,a1.fj,c0⟩:Tc) else (remI ((a0.fAt.toNat:Nat):Int) ((c0.length:Nat):Int)).bind fun d0=>(idx c0 d0).bind fun b0=>(if ((a0.fE % (7:UInt8)).toNat) = 0 then (put c0 ((d0.toNat:Nat):Int) (⟨b0.fw,a0.fN,b0.fe,b0.fC,b0.fB,b0.fu⟩:Tb)).bind fun j0=>some (⟨a1.fe,a1.fh,a1.fj,j0⟩:Tc) else (if ((a0.fE % (7:UInt8)).toNat) = 1 then (app ([a0.fN]:List Int) b0.fC).bind fun p0=>(put c0 ((d0.toNat:Nat):Int) (⟨b0.fw,b0.fv,b0.fe,p0,b0.fB,b0.fu⟩:Tb)).bind fun q0=>some (⟨a1.fe,a1.fh,a1.fj,q0⟩:Tc) else (if ((a0.fE % (7:UInt8)).toNat) = 2 then (app ([]:List Int) b0.fe).bind fun k0=>(app k0 ([a0.fN]:List Int)).bind fun s0=>(put c0 ((d0.toNat:Nat):Int) (⟨b0.fw,b0.fv,s0,b0.fC,b0.fB,b0.fu⟩:Tb)).bind fun t0=>some (⟨a1.fe,a1.fh,a1.fj,t0⟩:Tc) else (if ((a0.fE % (7:UInt8)).toNat) = 3 then (put c0 ((d0.toNat:Nat):Int) (⟨b0.fw,b0.fv,b0.fe,b0.fC,b0.fB,(!b0.fu)⟩:Tb)).bind fun u0=>some (⟨a1.fe,a1.fh,a1.fj,u0⟩:Tc) else (if ((a0.fE % (7:UInt8)).toNat) = 4 then (c0[0]?).bind fun g0=>(put c0 ((d0.toNat:Nat):Int) (⟨g0.fw,b0.fv,b0.fe,b0.fC,b0.fB,b0.fu⟩:Tb)).bind fun v0=>some (⟨a1.fe,a1.fh,a1.fj,v0⟩:Tc) else (if ((a0.fE % (7:UInt8)).toNat) = 5 then some (⟨a1.fe,a1.fh,a0.fN,c0⟩:Tc) else (put c0 ((d0.toNat:Nat):Int) (⟨b0.fw,b0.fv,b0.fe,b0.fC,([a0.fN]:List Int),b0.fu⟩:Tb)).bind fun x0=>some (⟨a1.fe,a1.fh,a1.fj,x0⟩:Tc))))))))
theorem bY_c (n:Nat) (L:List Nat) (w:World) (hL:∀ b ∈ L,b < w.heap.size) (a0:Tl) (a1:Tc) {v1_3:Value} (h1_3:Rep.R w L [v1_3] a1.fo)  {r:Tc} (h:bY_p n a0 a1 = some r) :
    Calls Tryz.prog 34 #[.agg #[.int .u8 (a0.fE.toNat:Int),.int .u8 (a0.fAt.toNat:Int),vI a0.fN],.agg #[vI a1.fe,vI a1.fh,vI a1.fj,v1_3]] w (Gives w fun w' u=>∃ v0_3:Value,u = .agg #[vI r.fe,vI r.fh,vI r.fj,v0_3]/\Rep.R w' L [v0_3] r.fo):=by
 unfold bY_p at h
 refine AF Tryz.func34 rfl rfl rfl fun _ cs0 hb0=>Ac<|RG.bx (AB w) rfl rfl fun w11 E9 J5 B00=>RG.bx J5 rfl rfl fun w16 F9 K5 E00=>RG.nl [vI 0,vI 0,vI 0,vN] K5 fun w21 Y1 y4 F00=>Aa<|Ac<|Ab (AK rfl (y4.memA .t1))<|RG.nl [vI 0,vI 0,vI 0,vN] y4 fun w26 Z1 A4 I00=>AQ [vI a1.fe,vI a1.fh,vI a1.fj,v1_3] A4 .hd (o4 rfl rfl rfl (AR (AO h1_3 A4))) fun w31 R6 V00=>Aa<|Ac<|Ak .plain rfl (AE (α:=Tb) (xs:=([]:List Tb)) (vs:=[]) (ds' :=[]) rfl R6 el42 rfl evs_nil (by kernel_rfl) rfl) fun w35 G9 s2 W00=>AV 3 rfl<|AP rfl ((s2.memA .t3) 3 _ rfl)<|bk h fun M1 p9 h=>RG.doesL .plain rfl (AW (α:=Tb) (ys:=a1.fo) p9 s2 (fun _ _=>.hd) el42 rfl rfl (Ax (cs:=[]) (xs:=(([]:List Tb):List Tb)) s2 L (AD _ _)) (BG (AO h1_3 s2))) fun v0 w42 ⟨y2,X2,X00,j1⟩=>AV 3 rfl<|RG.now .plain (BP (j:=3) (old:=[vI a1.fe,vI a1.fh,vI a1.fj,v1_3]) (news:=[v0]) (new' :=[vI a1.fe,vI a1.fh,vI a1.fj,v0]) X2 .t1 rfl rfl rfl (St.c1 (α:=Tb) X2 .hd) rfl rfl (o1 (St.o1 (α:=Tb) X2 .hd)) rfl) fun w49 u0 g1=>?_
 refine Aa<|Aj<|Ac<|AV 3 rfl<|AP rfl ((u0.memA .t1) 3 _ rfl) ?_
 have k01:M1.length <= 4294967296:=St.rowLe (α:=Tb) u0 .hd
 obtain ⟨B9,R9,R7⟩:=St.rowV (α:=Tb) u0 .hd
 refine Ab (FV.lenV Tryz.underlying42 rfl R7)<|Ab (BQ (i:=M1.length) (j:=0) rfl rfl)<|Aa<|AS rfl h (fun H5 h=>?_) (fun H5 h=>?_)
 refine Ac<|Ab (AK rfl (u0.memA .t1))<|AQ [vI a1.fe,vI a1.fh,vI a1.fj,v0] u0 .t2 (o4 rfl rfl rfl (St.o1 (α:=Tb) u0 .hd)) fun w57 Y2 p7=>Aa<|Al rfl ?_
 have u2:=By Y2 .hd
 have Y00:=Bz Y2 .hd
 have P8:=BA (α:=Tb) (v:=v0) (xs:=M1) u2 L (Bj (α:=Tb) Y2 .hd (Au j1 (Tt g1 p7)) hL)
 refine Ap hb0 Tryz.func34 rfl (.cons (.many (cs:=[vI a1.fe,vI a1.fh,vI a1.fj,v0]) (by kernel_rfl) rfl (u2.memA .t1)) .nil) rfl ?_
 cases h
 exact ⟨u2.ag,fun p q=>⟨v0,rfl,u2.kd P8 q⟩⟩
 refine Aq<|Aj<|dt 11 tb34_5 fun s1 x1=>Ag 0 1 s1 rfl x1 (fun _=>Bd 3 rfl) rfl<|AG 1 3 1536 s1 rfl x1 (AL rfl ((u0.memA .t1) 3 _ rfl)) rfl<|Ag 2 7 s1 rfl x1 (fun _=>Bd 1 rfl) rfl<|AG 3 15 1808 s1 rfl x1 (AL rfl ((u0.memA .t4) 1 _ rfl)) rfl ?_
 have E01:=a0.fAt.toNat_lt
 refine Ag 4 31 s1 rfl x1 (fun _=>FV.convN (i:=a0.fAt.toNat) Tryz.underlying5 Tryz.underlying3 rfl (by omega)) rfl<|Ag 5 63 s1 rfl x1 (fun _=>Bd 3 rfl) rfl<|AG 6 127 1920 s1 rfl x1 (AL rfl ((u0.memA .t1) 3 _ rfl)) rfl ?_
 obtain ⟨C9,U9,U7⟩:=St.rowV (α:=Tb) u0 .hd
 refine AG 7 255 1792 s1 rfl x1 (FV.lenV Tryz.underlying42 rfl U7) rfl<|bk h fun K1 V8 h=>Ag 8 511 s1 rfl x1 (fun _=>FV.remc (i:=((a0.fAt.toNat:Nat):Int)) (j:=((M1.length:Nat):Int)) rfl rfl V8) rfl<|bk h fun g0 X8 h=>?_
 obtain ⟨W7,b1⟩:=idx_in X8
 have I1:=Au j1 g1
 obtain ⟨A5,V9,b4,H4,x00,Q8,X1⟩:=St.nth (α:=Tb) u0 .hd I1 b1
 obtain ⟨v4,W9,Z0⟩:=BU (α:=Tb) u0 .hd H4
 obtain rfl:A5 = ⟨v4,0,none⟩:=by rw [Z0] at b4; cases b4; rfl
 obtain ⟨v86,v87,v88,rfl,X0,R8,D01⟩:=op_Tb Q8
 refine Ag 9 1023 s1 rfl x1 (fun _=>Bm 6 (K1.toNat) rfl b4 rfl W7 H4) rfl<|Ag 10 2047 s1 rfl x1 (fun _=>AU rfl) rfl<|AM (dk s1)<|Aj<|Ac<|AV 0 rfl<|AP rfl ((u0.memA .t4) 0 _ rfl)<|Ab (FV.rem8 (a:=a0.fE) (b:=(7:UInt8)) rfl rfl (by decide))<|Aa<|Ay<|Ac<|Ab (BQ (i:=(a0.fE % (7:UInt8)).toNat) (j:=0) rfl rfl)<|Af rfl<|Aa<|AS rfl h (fun I5 h=>?_) (fun I5 h=>?_)
 refine Av<|Ae rfl<|AV 2 rfl<|AP rfl ((u0.memA .t4) 2 _ rfl)<|Ab (FV.nilCheck rfl)<|AV 1 rfl ?_
 obtain ⟨X9,V7,j01,y00,U8,v01,H7⟩:=St.nthAt (α:=Tb) u0 .hd I1 b1 Z0
 obtain ⟨V4,W4,X4,rfl,Y7,Z7,b8⟩:=op_Tb U8
 refine bk h fun u9 Y8 h=>RG.acts' .plain (Acts.setPart (α:=Tb) (i:=K1.toNat) (tot:=1) (ds:=[.string g0.fw,vI g0.fv,V4,W4,X4,.bool g0.fu]) (news:=[vI a0.fN]) (full:=[.string g0.fw,vI a0.fN,V4,W4,X4,.bool g0.fu]) Y8 u0 V7 (fun _=>.hd) I1 H7 rfl (by kernel_rfl) rfl rfl rfl rfl (mk_Tb g0.fw a0.fN g0.fe Y7 g0.fC Z7 g0.fB b8 g0.fu) (by kernel_rfl) (o1 rfl)) fun M01 ⟨Y9,z2,z00,q7⟩=>Aa<|AA<|Ac<|Ab (AK rfl (z2.memA .t1))<|AQ [vI a1.fe,vI a1.fh,vI a1.fj,v0] z2 .t2 (o4 rfl rfl rfl (St.o1 (α:=Tb) z2 .hd)) fun Q01 A2 U6=>Aa<|Al rfl ?_
 have b2:=By A2 .hd
 have A00:=Bz A2 .hd
 have c8:=BA (α:=Tb) (v:=v0) (xs:=u9) b2 L (Bj (α:=Tb) A2 .hd (Au q7 U6) hL)
 refine Ap hb0 Tryz.func34 rfl (.cons (.many (cs:=[vI a1.fe,vI a1.fh,vI a1.fj,v0]) (by kernel_rfl) rfl (b2.memA .t1)) .nil) rfl ?_
 cases h
 exact ⟨b2.ag,fun p q=>⟨v0,rfl,b2.kd c8 q⟩⟩
 refine Ac<|Ab (BQ (i:=(a0.fE % (7:UInt8)).toNat) (j:=1) rfl rfl)<|Af rfl<|Aa<|AS rfl h (fun C5 h=>?_) (fun C5 h=>?_)
 refine dt 8 tb34_11 fun d1 R1=>Ag 0 1 d1 rfl R1 (fun _=>Ai rfl) rfl<|Ag 1 3 d1 rfl R1 (fun _=>Bd 2 rfl) rfl<|AG 2 7 3848 d1 rfl R1 (AL rfl ((u0.memA .t4) 2 _ rfl)) rfl<|Ag 4 23 d1 rfl R1 (fun _=>Ai rfl) rfl<|Ag 5 55 d1 rfl R1 (fun _=>FV.nilCheck rfl) rfl<|Ag 6 119 d1 rfl R1 (fun _=>Bd 3 rfl) rfl<|AG 7 247 3840 d1 rfl R1 (AL rfl (X1 3 _ rfl)) rfl<|BS 3 255 d1 rfl .plain rfl (AE (α:=Int) (xs:=([a0.fN]:List Int)) (vs:=[vI a0.fN]) (ds' :=[vI a0.fN]) rfl u0 el45 rfl (e1 rfl) (by kernel_rfl) rfl) fun R01 D9 x4 B4=>bk h fun x5 Z8 h=>Be (i:=8) (rk d1) (Bs (m' :=511) (sk d1) rfl rfl .plain rfl (AW (α:=Int) (ys:=g0.fC) Z8 x4 (fun _ _=>.hd) el45 rfl rfl (Ax (cs:=[vI a0.fN]) (xs:=(([a0.fN]:List Int):List Int)) x4 L (Am (cs:=[vI a0.fN]) (ds:=[]) rfl (AD _ _))) (BG (Ao R8 B4))) (fun p4 U01 ⟨Z9,B2,V6,s7⟩=>?_))
 refine Be (i:=9) (rk d1) (Bq (m' :=1023) (sk d1) rfl .plain rfl (FV.nilCheck rfl) ?_)
 refine Be (i:=10) (rk d1) (Bq (m' :=2047) (sk d1) rfl .plain rfl (Bd 3 rfl) ?_)
 have C2:=By B2 .hd
 have g4:=BA (α:=Int) (v:=p4) (xs:=x5) C2 L (Bj (α:=Int) B2 .hd s7 hL)
 have I4:=Au j1 (Tt g1 (Tt B4 (Tt V6 (Bz B2 .hd))))
 obtain ⟨H9,I7,Z00,b00,d8,p01,C7⟩:=St.nthAt (α:=Tb) C2 .hd I4 b1 Z0
 obtain ⟨Y4,q9,Z4,rfl,g8,x01,j8⟩:=op_Tb d8
 refine bk h fun v9 b9 h=>Be (i:=11) (rk d1) (RO.acts (m' :=4095) (sk d1) rfl rfl .plain (Acts.setPart (α:=Tb) (i:=K1.toNat) (tot:=3) (ds:=[.string g0.fw,vI g0.fv,Y4,q9,Z4,.bool g0.fu]) (news:=[p4]) (full:=[.string g0.fw,vI g0.fv,Y4,p4,Z4,.bool g0.fu]) b9 C2 I7 (fun _=>.hd) I4 C7 rfl (by kernel_rfl) rfl rfl rfl (Rep.c1 g4) (mk_Tb g0.fw g0.fv g0.fe g8 x5 g4 g0.fB j8 g0.fu) (by kernel_rfl) (o1 (AR g4))) (fun V01 ⟨c00,D2,C00,t7⟩=>?_))
 refine AM (dk d1)<|AA<|Ac<|Ab (AK rfl (D2.memA .t1))<|AQ [vI a1.fe,vI a1.fh,vI a1.fj,v0] D2 .t2 (o4 rfl rfl rfl (St.o1 (α:=Tb) D2 .hd)) fun X01 E2 W6=>Aa<|Al rfl ?_
 have c2:=By E2 .hd
 have D00:=Bz E2 .hd
 have k8:=BA (α:=Tb) (v:=v0) (xs:=v9) c2 L (Bj (α:=Tb) E2 .hd (Au t7 W6) hL)
 refine Ap hb0 Tryz.func34 rfl (.cons (.many (cs:=[vI a1.fe,vI a1.fh,vI a1.fj,v0]) (by kernel_rfl) rfl (c2.memA .t1)) .nil) rfl ?_
 cases h
 exact ⟨c2.ag,fun p q=>⟨v0,rfl,c2.kd k8 q⟩⟩
 refine Ac<|Ab (BQ (i:=(a0.fE % (7:UInt8)).toNat) (j:=2) rfl rfl)<|Af rfl<|Aa<|AS rfl h (fun D5 h=>?_) (fun D5 h=>?_)
 refine dt 6 tb34_13 fun b0 J1=>Ag 0 1 b0 rfl J1 (fun _=>Ai rfl) rfl<|Ag 2 5 b0 rfl J1 (fun _=>Ai rfl) rfl<|Ag 3 13 b0 rfl J1 (fun _=>FV.nilCheck rfl) rfl<|Ag 4 29 b0 rfl J1 (fun _=>Bd 2 rfl) rfl<|bk h fun v2 y0 h=>RD.mf (α:=Value × (List Value) × Value × (List Value)) (fun ⟨U1,P1,V1,Q1⟩=>[(4,vP Y1),(5,vP Z1),(59,.pointer (some (Addr.add ⟨v4,0,none⟩ (K1.toNat * 6)))),(65,V1),(68,U1)]) (fun ⟨U1,P1,V1,Q1⟩=>[.row w.heap.size 3 (Rep.size Int) U1 (([a0.fN]:List Int).length) P1,.row w.heap.size 3 (Rep.size Int) V1 v2.length Q1,.row w.heap.size 101 (Rep.size Tb) v0 M1.length y2,.cells Z1 [vI a1.fe,vI a1.fh,vI a1.fj,v0] 44,.cells Y1 [vI 0,vI 0,vI 0,vN] 44]) (fun ⟨U1,P1,V1,Q1⟩ s4=>Cells s4 (bl [.row w.heap.size 3 (Rep.size Int) U1 (([a0.fN]:List Int).length) P1,.row w.heap.size 3 (Rep.size Int) V1 v2.length Q1,.row w.heap.size 101 (Rep.size Tb) v0 M1.length y2,.cells Z1 [vI a1.fe,vI a1.fh,vI a1.fj,v0] 44,.cells Y1 [vI 0,vI 0,vI 0,vN] 44] ++ L) P1 (([a0.fN]:List Int):List Int)/\Cells s4 (bl [.row w.heap.size 3 (Rep.size Int) U1 (([a0.fN]:List Int).length) P1,.row w.heap.size 3 (Rep.size Int) V1 v2.length Q1,.row w.heap.size 101 (Rep.size Tb) v0 M1.length y2,.cells Z1 [vI a1.fe,vI a1.fh,vI a1.fj,v0] 44,.cells Y1 [vI 0,vI 0,vI 0,vN] 44] ++ L) Q1 (v2:List Int)) u0 4 1023 ?_ ?_
 rintro ⟨U1,P1,V1,Q1⟩ s4 z4 X6 ⟨u7,v7⟩
 try dsimp only
 refine bk h fun y5 c9 h=>Be (i:=10) (rk b0) (Bs (m' :=2047) (sk b0) rfl rfl .plain rfl (AW (α:=Int) (ys:=([a0.fN]:List Int)) c9 z4 (fun _ _=>.t1) el45 rfl rfl v7 (Src.row (α:=Int) z4 .hd u7)) (fun q4 b02 ⟨d00,F2,Y6,x7⟩=>?_))
 refine Be (i:=11) (rk b0) (Bq (m' :=4095) (sk b0) rfl .plain rfl (FV.nilCheck rfl) ?_)
 refine Be (i:=12) (rk b0) (Bq (m' :=8191) (sk b0) rfl .plain rfl (Bd 2 rfl) ?_)
 have G2:=By F2 .t1
 have j4:=BA (α:=Int) (v:=q4) (xs:=y5) G2 L (Bj (α:=Int) F2 .t1 x7 hL)
 have J4:=Au j1 (Tt g1 (Tt X6 (Tt Y6 (Bz F2 .t1))))
 obtain ⟨I9,J7,b01,g00,p8,q01,D7⟩:=St.nthAt (α:=Tb) G2 .t1 J4 b1 Z0
 obtain ⟨s9,b5,c5,rfl,y01,q8,s8⟩:=op_Tb p8
 refine bk h fun x9 d9 h=>Be (i:=13) (rk b0) (RO.acts (m' :=16383) (sk b0) rfl rfl .plain (Acts.setPart (α:=Tb) (i:=K1.toNat) (tot:=2) (ds:=[.string g0.fw,vI g0.fv,s9,b5,c5,.bool g0.fu]) (news:=[q4]) (full:=[.string g0.fw,vI g0.fv,q4,b5,c5,.bool g0.fu]) d9 G2 J7 (fun _=>.t1) J4 D7 rfl (by kernel_rfl) rfl rfl rfl (Rep.c1 j4) (mk_Tb g0.fw g0.fv y5 j4 g0.fC q8 g0.fB s8 g0.fu) (by kernel_rfl) (o1 (AR j4))) (fun c02 ⟨j00,H2,G00,y7⟩=>?_))
 refine AM (dk b0)<|AA<|Ac<|Ab (AK rfl (H2.memA .t2))<|AQ [vI a1.fe,vI a1.fh,vI a1.fj,v0] H2 .t3 (o4 rfl rfl rfl (St.o1 (α:=Tb) H2 .t1)) fun d02 I2 Z6=>Aa<|Al rfl ?_
 have d2:=By I2 .t1
 have H00:=Bz I2 .t1
 have t8:=BA (α:=Tb) (v:=v0) (xs:=x9) d2 L (Bj (α:=Tb) I2 .t1 (Au y7 Z6) hL)
 refine Ap hb0 Tryz.func34 rfl (.cons (.many (cs:=[vI a1.fe,vI a1.fh,vI a1.fj,v0]) (by kernel_rfl) rfl (d2.memA .t2)) .nil) rfl ?_
 cases h
 exact ⟨d2.ag,fun p q=>⟨v0,rfl,d2.kd t8 q⟩⟩
 intro x0
 refine Bn [1,5,7] (rk b0) ⟨?_,?_,?_,trivial⟩
 refine BI (m' :=31) (sk b0) rfl .plain rfl (AE (α:=Int) (xs:=([]:List Int)) (vs:=[]) (ds' :=[]) rfl u0 el45 rfl evs_nil (by kernel_rfl) rfl) fun u1 p1 k0 j0=>?_
 have t0:=Ax (cs:=[]) (xs:=(([]:List Int):List Int)) k0 L (AD _ _)
 refine Bn [5,7] (rk b0) ⟨?_,?_,trivial⟩
 have v1:=Au j1 (Tt g1 j0)
 obtain ⟨z1,C1,D1,A1,W0,V0,B1⟩:=St.nthAt (α:=Tb) k0 .t1 v1 b1 Z0
 obtain ⟨W1,F1,G1,rfl,K0,q1,E1⟩:=op_Tb W0
 refine Bq (m' :=63) (sk b0) rfl .plain rfl (AL rfl (V0 2 _ rfl))<|Bn [6,7] (rk b0) ⟨?_,?_,trivial⟩
 refine Bs (m' :=127) (sk b0) rfl rfl .plain rfl (AW (α:=Int) (ys:=g0.fe) y0 k0 (fun _ _=>.hd) el45 rfl rfl t0 (BG K0)) fun Y0 H1 ⟨Q0,H0,R0,U0⟩=>Be (i:=7) (rk b0) (Bq (m' :=255) (sk b0) rfl .plain rfl (Bd 2 rfl) ?_)
 refine Be (i:=8) (rk b0) (Bq (m' :=511) (sk b0) rfl .plain rfl (AL rfl ((H0.memA .t5) 2 _ rfl)) ?_)
 refine BS 9 1023 b0 rfl .plain rfl (AE (α:=Int) (xs:=([a0.fN]:List Int)) (vs:=[vI a0.fN]) (ds' :=[vI a0.fN]) rfl H0 el45 rfl (e1 rfl) (by kernel_rfl) rfl) fun z0 p0 d0 c0=>?_
 have q0:=Ax (cs:=[vI a0.fN]) (xs:=(([a0.fN]:List Int):List Int)) d0 L (Am (cs:=[vI a0.fN]) (ds:=[]) rfl (AD _ _))
 obtain ⟨M5,Z2⟩:=AI d0 (.a0 (.a0 (.a0 (.a0 (.a0 .done)))))
 exact x0 ((vS p0 1),[vI a0.fN],Y0,Q0) M5 (Tt j0 (Tt R0 (Tt c0 Z2))) ⟨(Au q0 Z2),(Au U0 (Tt c0 Z2))⟩
 refine Bq (m' :=191) (sk b0) rfl .plain rfl (Bd 2 rfl)<|Bn [6,8] (rk b0) ⟨?_,?_,trivial⟩
 refine Bs (m' :=255) (sk b0) rfl rfl .plain rfl (AW (α:=Int) (ys:=g0.fe) y0 k0 (fun _ _=>.hd) el45 rfl rfl t0 (BG K0)) fun Y0 H1 ⟨Q0,H0,R0,U0⟩=>Be (i:=8) (rk b0) (Bq (m' :=511) (sk b0) rfl .plain rfl (AL rfl ((H0.memA .t5) 2 _ rfl)) ?_)
 refine BS 9 1023 b0 rfl .plain rfl (AE (α:=Int) (xs:=([a0.fN]:List Int)) (vs:=[vI a0.fN]) (ds' :=[vI a0.fN]) rfl H0 el45 rfl (e1 rfl) (by kernel_rfl) rfl) fun z0 p0 d0 c0=>?_
 have q0:=Ax (cs:=[vI a0.fN]) (xs:=(([a0.fN]:List Int):List Int)) d0 L (Am (cs:=[vI a0.fN]) (ds:=[]) rfl (AD _ _))
 obtain ⟨P5,b3⟩:=AI d0 (.a0 (.a0 (.a0 (.a0 (.a0 .done)))))
 exact x0 ((vS p0 1),[vI a0.fN],Y0,Q0) P5 (Tt j0 (Tt R0 (Tt c0 b3))) ⟨(Au q0 b3),(Au U0 (Tt c0 b3))⟩
 refine Bq (m' :=447) (sk b0) rfl .plain rfl (AL rfl ((k0.memA .t5) 2 _ rfl))<|Bn [6,9] (rk b0) ⟨?_,?_,trivial⟩
 refine Bs (m' :=511) (sk b0) rfl rfl .plain rfl (AW (α:=Int) (ys:=g0.fe) y0 k0 (fun _ _=>.hd) el45 rfl rfl t0 (BG K0)) fun Y0 H1 ⟨Q0,H0,R0,U0⟩=>BS 9 1023 b0 rfl .plain rfl (AE (α:=Int) (xs:=([a0.fN]:List Int)) (vs:=[vI a0.fN]) (ds' :=[vI a0.fN]) rfl H0 el45 rfl (e1 rfl) (by kernel_rfl) rfl) fun z0 p0 d0 c0=>?_
 have q0:=Ax (cs:=[vI a0.fN]) (xs:=(([a0.fN]:List Int):List Int)) d0 L (Am (cs:=[vI a0.fN]) (ds:=[]) rfl (AD _ _))
 obtain ⟨Q5,c3⟩:=AI d0 (.a0 (.a0 (.a0 (.a0 (.a0 .done)))))
 exact x0 ((vS p0 1),[vI a0.fN],Y0,Q0) Q5 (Tt j0 (Tt R0 (Tt c0 c3))) ⟨(Au q0 c3),(Au U0 (Tt c0 c3))⟩
 refine BI (m' :=959) (sk b0) rfl .plain rfl (AE (α:=Int) (xs:=([a0.fN]:List Int)) (vs:=[vI a0.fN]) (ds' :=[vI a0.fN]) rfl k0 el45 rfl (e1 rfl) (by kernel_rfl) rfl) fun z0 p0 d0 c0=>?_
 have q0:=Ax (cs:=[vI a0.fN]) (xs:=(([a0.fN]:List Int):List Int)) d0 L (Am (cs:=[vI a0.fN]) (ds:=[]) rfl (AD _ _))
 have s0:=Ao K0 c0
 have P0:=Au t0 c0
 refine Be (i:=6) (rk b0) (Bs (m' :=1023) (sk b0) rfl rfl .plain rfl (AW (α:=Int) (ys:=g0.fe) y0 d0 (fun _ _=>.t1) el45 rfl rfl P0 (BG s0)) (fun M0 y1 ⟨G0,I0,C0,J0⟩=>?_))
 obtain ⟨R5,d3⟩:=AI I0 (.a0 (.a0 (.a0 (.a0 (.a0 .done)))))
 exact x0 ((vS p0 1),[vI a0.fN],M0,G0) R5 (Tt j0 (Tt c0 (Tt C0 d3))) ⟨(Au q0 (Tt C0 d3)),(Au J0 d3)⟩
 refine Bq (m' :=159) (sk b0) rfl .plain rfl (Bd 2 rfl)<|Bn [5,8] (rk b0) ⟨?_,?_,trivial⟩
 have v1:=Au j1 (Tt g1 j0)
 obtain ⟨z1,C1,D1,A1,W0,V0,B1⟩:=St.nthAt (α:=Tb) k0 .t1 v1 b1 Z0
 obtain ⟨W1,F1,G1,rfl,K0,q1,E1⟩:=op_Tb W0
 refine Bq (m' :=191) (sk b0) rfl .plain rfl (AL rfl (V0 2 _ rfl))<|Bn [6,8] (rk b0) ⟨?_,?_,trivial⟩
 refine Bs (m' :=255) (sk b0) rfl rfl .plain rfl (AW (α:=Int) (ys:=g0.fe) y0 k0 (fun _ _=>.hd) el45 rfl rfl t0 (BG K0)) fun Y0 H1 ⟨Q0,H0,R0,U0⟩=>Be (i:=8) (rk b0) (Bq (m' :=511) (sk b0) rfl .plain rfl (AL rfl ((H0.memA .t5) 2 _ rfl)) ?_)
 refine BS 9 1023 b0 rfl .plain rfl (AE (α:=Int) (xs:=([a0.fN]:List Int)) (vs:=[vI a0.fN]) (ds' :=[vI a0.fN]) rfl H0 el45 rfl (e1 rfl) (by kernel_rfl) rfl) fun z0 p0 d0 c0=>?_
 have q0:=Ax (cs:=[vI a0.fN]) (xs:=(([a0.fN]:List Int):List Int)) d0 L (Am (cs:=[vI a0.fN]) (ds:=[]) rfl (AD _ _))
 obtain ⟨U5,g3⟩:=AI d0 (.a0 (.a0 (.a0 (.a0 (.a0 .done)))))
 exact x0 ((vS p0 1),[vI a0.fN],Y0,Q0) U5 (Tt j0 (Tt R0 (Tt c0 g3))) ⟨(Au q0 g3),(Au U0 (Tt c0 g3))⟩
 refine Bq (m' :=447) (sk b0) rfl .plain rfl (AL rfl ((k0.memA .t5) 2 _ rfl))<|Bn [6,9] (rk b0) ⟨?_,?_,trivial⟩
 refine Bs (m' :=511) (sk b0) rfl rfl .plain rfl (AW (α:=Int) (ys:=g0.fe) y0 k0 (fun _ _=>.hd) el45 rfl rfl t0 (BG K0)) fun Y0 H1 ⟨Q0,H0,R0,U0⟩=>BS 9 1023 b0 rfl .plain rfl (AE (α:=Int) (xs:=([a0.fN]:List Int)) (vs:=[vI a0.fN]) (ds' :=[vI a0.fN]) rfl H0 el45 rfl (e1 rfl) (by kernel_rfl) rfl) fun z0 p0 d0 c0=>?_
 have q0:=Ax (cs:=[vI a0.fN]) (xs:=(([a0.fN]:List Int):List Int)) d0 L (Am (cs:=[vI a0.fN]) (ds:=[]) rfl (AD _ _))
 obtain ⟨V5,j3⟩:=AI d0 (.a0 (.a0 (.a0 (.a0 (.a0 .done)))))
 exact x0 ((vS p0 1),[vI a0.fN],Y0,Q0) V5 (Tt j0 (Tt R0 (Tt c0 j3))) ⟨(Au q0 j3),(Au U0 (Tt c0 j3))⟩
 refine BI (m' :=959) (sk b0) rfl .plain rfl (AE (α:=Int) (xs:=([a0.fN]:List Int)) (vs:=[vI a0.fN]) (ds' :=[vI a0.fN]) rfl k0 el45 rfl (e1 rfl) (by kernel_rfl) rfl) fun z0 p0 d0 c0=>?_
 have q0:=Ax (cs:=[vI a0.fN]) (xs:=(([a0.fN]:List Int):List Int)) d0 L (Am (cs:=[vI a0.fN]) (ds:=[]) rfl (AD _ _))
 have s0:=Ao K0 c0
 have P0:=Au t0 c0
 refine Be (i:=6) (rk b0) (Bs (m' :=1023) (sk b0) rfl rfl .plain rfl (AW (α:=Int) (ys:=g0.fe) y0 d0 (fun _ _=>.t1) el45 rfl rfl P0 (BG s0)) (fun M0 y1 ⟨G0,I0,C0,J0⟩=>?_))
 obtain ⟨W5,k3⟩:=AI I0 (.a0 (.a0 (.a0 (.a0 (.a0 .done)))))
 exact x0 ((vS p0 1),[vI a0.fN],M0,G0) W5 (Tt j0 (Tt c0 (Tt C0 k3))) ⟨(Au q0 (Tt C0 k3)),(Au J0 k3)⟩
 refine Bq (m' :=415) (sk b0) rfl .plain rfl (AL rfl ((k0.memA .t5) 2 _ rfl))<|Bn [5,9] (rk b0) ⟨?_,?_,trivial⟩
 have v1:=Au j1 (Tt g1 j0)
 obtain ⟨z1,C1,D1,A1,W0,V0,B1⟩:=St.nthAt (α:=Tb) k0 .t1 v1 b1 Z0
 obtain ⟨W1,F1,G1,rfl,K0,q1,E1⟩:=op_Tb W0
 refine Bq (m' :=447) (sk b0) rfl .plain rfl (AL rfl (V0 2 _ rfl))<|Bn [6,9] (rk b0) ⟨?_,?_,trivial⟩
 refine Bs (m' :=511) (sk b0) rfl rfl .plain rfl (AW (α:=Int) (ys:=g0.fe) y0 k0 (fun _ _=>.hd) el45 rfl rfl t0 (BG K0)) fun Y0 H1 ⟨Q0,H0,R0,U0⟩=>BS 9 1023 b0 rfl .plain rfl (AE (α:=Int) (xs:=([a0.fN]:List Int)) (vs:=[vI a0.fN]) (ds' :=[vI a0.fN]) rfl H0 el45 rfl (e1 rfl) (by kernel_rfl) rfl) fun z0 p0 d0 c0=>?_
 have q0:=Ax (cs:=[vI a0.fN]) (xs:=(([a0.fN]:List Int):List Int)) d0 L (Am (cs:=[vI a0.fN]) (ds:=[]) rfl (AD _ _))
 obtain ⟨X5,p3⟩:=AI d0 (.a0 (.a0 (.a0 (.a0 (.a0 .done)))))
 exact x0 ((vS p0 1),[vI a0.fN],Y0,Q0) X5 (Tt j0 (Tt R0 (Tt c0 p3))) ⟨(Au q0 p3),(Au U0 (Tt c0 p3))⟩
 refine BI (m' :=959) (sk b0) rfl .plain rfl (AE (α:=Int) (xs:=([a0.fN]:List Int)) (vs:=[vI a0.fN]) (ds' :=[vI a0.fN]) rfl k0 el45 rfl (e1 rfl) (by kernel_rfl) rfl) fun z0 p0 d0 c0=>?_
 have q0:=Ax (cs:=[vI a0.fN]) (xs:=(([a0.fN]:List Int):List Int)) d0 L (Am (cs:=[vI a0.fN]) (ds:=[]) rfl (AD _ _))
 have s0:=Ao K0 c0
 have P0:=Au t0 c0
 refine Be (i:=6) (rk b0) (Bs (m' :=1023) (sk b0) rfl rfl .plain rfl (AW (α:=Int) (ys:=g0.fe) y0 d0 (fun _ _=>.t1) el45 rfl rfl P0 (BG s0)) (fun M0 y1 ⟨G0,I0,C0,J0⟩=>?_))
 obtain ⟨Y5,q3⟩:=AI I0 (.a0 (.a0 (.a0 (.a0 (.a0 .done)))))
 exact x0 ((vS p0 1),[vI a0.fN],M0,G0) Y5 (Tt j0 (Tt c0 (Tt C0 q3))) ⟨(Au q0 (Tt C0 q3)),(Au J0 q3)⟩
 refine BI (m' :=927) (sk b0) rfl .plain rfl (AE (α:=Int) (xs:=([a0.fN]:List Int)) (vs:=[vI a0.fN]) (ds' :=[vI a0.fN]) rfl k0 el45 rfl (e1 rfl) (by kernel_rfl) rfl) fun z0 p0 d0 c0=>?_
 have q0:=Ax (cs:=[vI a0.fN]) (xs:=(([a0.fN]:List Int):List Int)) d0 L (Am (cs:=[vI a0.fN]) (ds:=[]) rfl (AD _ _))
 have d4:=Tt g1 (Tt j0 c0)
 have c4:=Au j1 d4
 obtain ⟨z1,C1,D1,A1,W0,V0,B1⟩:=St.nthAt (α:=Tb) d0 .t2 c4 b1 Z0
 obtain ⟨F1,G1,v5,rfl,q1,E1,U4⟩:=op_Tb W0
 refine AG 5 959 15424 b0 rfl J1 (AL rfl (V0 2 _ rfl)) rfl ?_
 have s0:=Au t0 c0
 refine Be (i:=6) (rk b0) (Bs (m' :=1023) (sk b0) rfl rfl .plain rfl (AW (α:=Int) (ys:=g0.fe) y0 d0 (fun _ _=>.t1) el45 rfl rfl s0 (BG q1)) (fun F0 k1 ⟨D0,A0,B0,E0⟩=>?_))
 obtain ⟨Z5,s3⟩:=AI A0 (.a0 (.a0 (.a0 (.a0 (.a0 .done)))))
 exact x0 ((vS p0 1),[vI a0.fN],F0,D0) Z5 (Tt j0 (Tt c0 (Tt B0 s3))) ⟨(Au q0 (Tt B0 s3)),(Au E0 s3)⟩
 refine Bq (m' :=61) (sk b0) rfl .plain rfl (AL rfl (X1 2 _ rfl))<|Bn [1,7] (rk b0) ⟨?_,?_,trivial⟩
 refine BI (m' :=63) (sk b0) rfl .plain rfl (AE (α:=Int) (xs:=([]:List Int)) (vs:=[]) (ds' :=[]) rfl u0 el45 rfl evs_nil (by kernel_rfl) rfl) fun u1 p1 k0 j0=>?_
 have t0:=Ax (cs:=[]) (xs:=(([]:List Int):List Int)) k0 L (AD _ _)
 refine Bn [6,7] (rk b0) ⟨?_,?_,trivial⟩
 have s0:=Ao X0 j0
 refine Bs (m' :=127) (sk b0) rfl rfl .plain rfl (AW (α:=Int) (ys:=g0.fe) y0 k0 (fun _ _=>.hd) el45 rfl rfl t0 (BG s0)) fun F0 k1 ⟨D0,A0,B0,E0⟩=>Be (i:=7) (rk b0) (Bq (m' :=255) (sk b0) rfl .plain rfl (Bd 2 rfl) ?_)
 refine Be (i:=8) (rk b0) (Bq (m' :=511) (sk b0) rfl .plain rfl (AL rfl ((A0.memA .t5) 2 _ rfl)) ?_)
 refine BS 9 1023 b0 rfl .plain rfl (AE (α:=Int) (xs:=([a0.fN]:List Int)) (vs:=[vI a0.fN]) (ds' :=[vI a0.fN]) rfl A0 el45 rfl (e1 rfl) (by kernel_rfl) rfl) fun z0 p0 d0 c0=>?_
 have q0:=Ax (cs:=[vI a0.fN]) (xs:=(([a0.fN]:List Int):List Int)) d0 L (Am (cs:=[vI a0.fN]) (ds:=[]) rfl (AD _ _))
 obtain ⟨b6,u3⟩:=AI d0 (.a0 (.a0 (.a0 (.a0 (.a0 .done)))))
 exact x0 ((vS p0 1),[vI a0.fN],F0,D0) b6 (Tt j0 (Tt B0 (Tt c0 u3))) ⟨(Au q0 u3),(Au E0 (Tt c0 u3))⟩
 refine Bq (m' :=191) (sk b0) rfl .plain rfl (Bd 2 rfl)<|Bn [6,8] (rk b0) ⟨?_,?_,trivial⟩
 have s0:=Ao X0 j0
 refine Bs (m' :=255) (sk b0) rfl rfl .plain rfl (AW (α:=Int) (ys:=g0.fe) y0 k0 (fun _ _=>.hd) el45 rfl rfl t0 (BG s0)) fun F0 k1 ⟨D0,A0,B0,E0⟩=>Be (i:=8) (rk b0) (Bq (m' :=511) (sk b0) rfl .plain rfl (AL rfl ((A0.memA .t5) 2 _ rfl)) ?_)
 refine BS 9 1023 b0 rfl .plain rfl (AE (α:=Int) (xs:=([a0.fN]:List Int)) (vs:=[vI a0.fN]) (ds' :=[vI a0.fN]) rfl A0 el45 rfl (e1 rfl) (by kernel_rfl) rfl) fun z0 p0 d0 c0=>?_
 have q0:=Ax (cs:=[vI a0.fN]) (xs:=(([a0.fN]:List Int):List Int)) d0 L (Am (cs:=[vI a0.fN]) (ds:=[]) rfl (AD _ _))
 obtain ⟨c6,v3⟩:=AI d0 (.a0 (.a0 (.a0 (.a0 (.a0 .done)))))
 exact x0 ((vS p0 1),[vI a0.fN],F0,D0) c6 (Tt j0 (Tt B0 (Tt c0 v3))) ⟨(Au q0 v3),(Au E0 (Tt c0 v3))⟩
 refine Bq (m' :=447) (sk b0) rfl .plain rfl (AL rfl ((k0.memA .t5) 2 _ rfl))<|Bn [6,9] (rk b0) ⟨?_,?_,trivial⟩
 have s0:=Ao X0 j0
 refine Bs (m' :=511) (sk b0) rfl rfl .plain rfl (AW (α:=Int) (ys:=g0.fe) y0 k0 (fun _ _=>.hd) el45 rfl rfl t0 (BG s0)) fun F0 k1 ⟨D0,A0,B0,E0⟩=>BS 9 1023 b0 rfl .plain rfl (AE (α:=Int) (xs:=([a0.fN]:List Int)) (vs:=[vI a0.fN]) (ds' :=[vI a0.fN]) rfl A0 el45 rfl (e1 rfl) (by kernel_rfl) rfl) fun z0 p0 d0 c0=>?_
 have q0:=Ax (cs:=[vI a0.fN]) (xs:=(([a0.fN]:List Int):List Int)) d0 L (Am (cs:=[vI a0.fN]) (ds:=[]) rfl (AD _ _))
 obtain ⟨d6,x3⟩:=AI d0 (.a0 (.a0 (.a0 (.a0 (.a0 .done)))))
 exact x0 ((vS p0 1),[vI a0.fN],F0,D0) d6 (Tt j0 (Tt B0 (Tt c0 x3))) ⟨(Au q0 x3),(Au E0 (Tt c0 x3))⟩
 refine BI (m' :=959) (sk b0) rfl .plain rfl (AE (α:=Int) (xs:=([a0.fN]:List Int)) (vs:=[vI a0.fN]) (ds' :=[vI a0.fN]) rfl k0 el45 rfl (e1 rfl) (by kernel_rfl) rfl) fun z0 p0 d0 c0=>?_
 have q0:=Ax (cs:=[vI a0.fN]) (xs:=(([a0.fN]:List Int):List Int)) d0 L (Am (cs:=[vI a0.fN]) (ds:=[]) rfl (AD _ _))
 have s0:=Ao X0 (Tt j0 c0)
 have P0:=Au t0 c0
 refine Be (i:=6) (rk b0) (Bs (m' :=1023) (sk b0) rfl rfl .plain rfl (AW (α:=Int) (ys:=g0.fe) y0 d0 (fun _ _=>.t1) el45 rfl rfl P0 (BG s0)) (fun M0 y1 ⟨G0,I0,C0,J0⟩=>?_))
 obtain ⟨g6,y3⟩:=AI I0 (.a0 (.a0 (.a0 (.a0 (.a0 .done)))))
 exact x0 ((vS p0 1),[vI a0.fN],M0,G0) g6 (Tt j0 (Tt c0 (Tt C0 y3))) ⟨(Au q0 (Tt C0 y3)),(Au J0 y3)⟩
 refine Bq (m' :=189) (sk b0) rfl .plain rfl (Bd 2 rfl)<|Bn [1,8] (rk b0) ⟨?_,?_,trivial⟩
 refine BI (m' :=191) (sk b0) rfl .plain rfl (AE (α:=Int) (xs:=([]:List Int)) (vs:=[]) (ds' :=[]) rfl u0 el45 rfl evs_nil (by kernel_rfl) rfl) fun u1 p1 k0 j0=>?_
 have t0:=Ax (cs:=[]) (xs:=(([]:List Int):List Int)) k0 L (AD _ _)
 refine Bn [6,8] (rk b0) ⟨?_,?_,trivial⟩
 have s0:=Ao X0 j0
 refine Bs (m' :=255) (sk b0) rfl rfl .plain rfl (AW (α:=Int) (ys:=g0.fe) y0 k0 (fun _ _=>.hd) el45 rfl rfl t0 (BG s0)) fun F0 k1 ⟨D0,A0,B0,E0⟩=>Be (i:=8) (rk b0) (Bq (m' :=511) (sk b0) rfl .plain rfl (AL rfl ((A0.memA .t5) 2 _ rfl)) ?_)
 refine BS 9 1023 b0 rfl .plain rfl (AE (α:=Int) (xs:=([a0.fN]:List Int)) (vs:=[vI a0.fN]) (ds' :=[vI a0.fN]) rfl A0 el45 rfl (e1 rfl) (by kernel_rfl) rfl) fun z0 p0 d0 c0=>?_
 have q0:=Ax (cs:=[vI a0.fN]) (xs:=(([a0.fN]:List Int):List Int)) d0 L (Am (cs:=[vI a0.fN]) (ds:=[]) rfl (AD _ _))
 obtain ⟨j6,z3⟩:=AI d0 (.a0 (.a0 (.a0 (.a0 (.a0 .done)))))
 exact x0 ((vS p0 1),[vI a0.fN],F0,D0) j6 (Tt j0 (Tt B0 (Tt c0 z3))) ⟨(Au q0 z3),(Au E0 (Tt c0 z3))⟩
 refine Bq (m' :=447) (sk b0) rfl .plain rfl (AL rfl ((k0.memA .t5) 2 _ rfl))<|Bn [6,9] (rk b0) ⟨?_,?_,trivial⟩
 have s0:=Ao X0 j0
 refine Bs (m' :=511) (sk b0) rfl rfl .plain rfl (AW (α:=Int) (ys:=g0.fe) y0 k0 (fun _ _=>.hd) el45 rfl rfl t0 (BG s0)) fun F0 k1 ⟨D0,A0,B0,E0⟩=>BS 9 1023 b0 rfl .plain rfl (AE (α:=Int) (xs:=([a0.fN]:List Int)) (vs:=[vI a0.fN]) (ds' :=[vI a0.fN]) rfl A0 el45 rfl (e1 rfl) (by kernel_rfl) rfl) fun z0 p0 d0 c0=>?_
 have q0:=Ax (cs:=[vI a0.fN]) (xs:=(([a0.fN]:List Int):List Int)) d0 L (Am (cs:=[vI a0.fN]) (ds:=[]) rfl (AD _ _))
 obtain ⟨k6,A3⟩:=AI d0 (.a0 (.a0 (.a0 (.a0 (.a0 .done)))))
 exact x0 ((vS p0 1),[vI a0.fN],F0,D0) k6 (Tt j0 (Tt B0 (Tt c0 A3))) ⟨(Au q0 A3),(Au E0 (Tt c0 A3))⟩
 refine BI (m' :=959) (sk b0) rfl .plain rfl (AE (α:=Int) (xs:=([a0.fN]:List Int)) (vs:=[vI a0.fN]) (ds' :=[vI a0.fN]) rfl k0 el45 rfl (e1 rfl) (by kernel_rfl) rfl) fun z0 p0 d0 c0=>?_
 have q0:=Ax (cs:=[vI a0.fN]) (xs:=(([a0.fN]:List Int):List Int)) d0 L (Am (cs:=[vI a0.fN]) (ds:=[]) rfl (AD _ _))
 have s0:=Ao X0 (Tt j0 c0)
 have P0:=Au t0 c0
 refine Be (i:=6) (rk b0) (Bs (m' :=1023) (sk b0) rfl rfl .plain rfl (AW (α:=Int) (ys:=g0.fe) y0 d0 (fun _ _=>.t1) el45 rfl rfl P0 (BG s0)) (fun M0 y1 ⟨G0,I0,C0,J0⟩=>?_))
 obtain ⟨p6,B3⟩:=AI I0 (.a0 (.a0 (.a0 (.a0 (.a0 .done)))))
 exact x0 ((vS p0 1),[vI a0.fN],M0,G0) p6 (Tt j0 (Tt c0 (Tt C0 B3))) ⟨(Au q0 (Tt C0 B3)),(Au J0 B3)⟩
 refine Bq (m' :=445) (sk b0) rfl .plain rfl (AL rfl ((u0.memA .t4) 2 _ rfl))<|Bn [1,9] (rk b0) ⟨?_,?_,trivial⟩
 refine BI (m' :=447) (sk b0) rfl .plain rfl (AE (α:=Int) (xs:=([]:List Int)) (vs:=[]) (ds' :=[]) rfl u0 el45 rfl evs_nil (by kernel_rfl) rfl) fun u1 p1 k0 j0=>?_
 have t0:=Ax (cs:=[]) (xs:=(([]:List Int):List Int)) k0 L (AD _ _)
 refine Bn [6,9] (rk b0) ⟨?_,?_,trivial⟩
 have s0:=Ao X0 j0
 refine Bs (m' :=511) (sk b0) rfl rfl .plain rfl (AW (α:=Int) (ys:=g0.fe) y0 k0 (fun _ _=>.hd) el45 rfl rfl t0 (BG s0)) fun F0 k1 ⟨D0,A0,B0,E0⟩=>BS 9 1023 b0 rfl .plain rfl (AE (α:=Int) (xs:=([a0.fN]:List Int)) (vs:=[vI a0.fN]) (ds' :=[vI a0.fN]) rfl A0 el45 rfl (e1 rfl) (by kernel_rfl) rfl) fun z0 p0 d0 c0=>?_
 have q0:=Ax (cs:=[vI a0.fN]) (xs:=(([a0.fN]:List Int):List Int)) d0 L (Am (cs:=[vI a0.fN]) (ds:=[]) rfl (AD _ _))
 obtain ⟨q6,C3⟩:=AI d0 (.a0 (.a0 (.a0 (.a0 (.a0 .done)))))
 exact x0 ((vS p0 1),[vI a0.fN],F0,D0) q6 (Tt j0 (Tt B0 (Tt c0 C3))) ⟨(Au q0 C3),(Au E0 (Tt c0 C3))⟩
 refine BI (m' :=959) (sk b0) rfl .plain rfl (AE (α:=Int) (xs:=([a0.fN]:List Int)) (vs:=[vI a0.fN]) (ds' :=[vI a0.fN]) rfl k0 el45 rfl (e1 rfl) (by kernel_rfl) rfl) fun z0 p0 d0 c0=>?_
 have q0:=Ax (cs:=[vI a0.fN]) (xs:=(([a0.fN]:List Int):List Int)) d0 L (Am (cs:=[vI a0.fN]) (ds:=[]) rfl (AD _ _))
 have s0:=Ao X0 (Tt j0 c0)
 have P0:=Au t0 c0
 refine Be (i:=6) (rk b0) (Bs (m' :=1023) (sk b0) rfl rfl .plain rfl (AW (α:=Int) (ys:=g0.fe) y0 d0 (fun _ _=>.t1) el45 rfl rfl P0 (BG s0)) (fun M0 y1 ⟨G0,I0,C0,J0⟩=>?_))
 obtain ⟨s6,D3⟩:=AI I0 (.a0 (.a0 (.a0 (.a0 (.a0 .done)))))
 exact x0 ((vS p0 1),[vI a0.fN],M0,G0) s6 (Tt j0 (Tt c0 (Tt C0 D3))) ⟨(Au q0 (Tt C0 D3)),(Au J0 D3)⟩
 refine BI (m' :=957) (sk b0) rfl .plain rfl (AE (α:=Int) (xs:=([a0.fN]:List Int)) (vs:=[vI a0.fN]) (ds' :=[vI a0.fN]) rfl u0 el45 rfl (e1 rfl) (by kernel_rfl) rfl) fun z0 p0 d0 c0=>?_
 have q0:=Ax (cs:=[vI a0.fN]) (xs:=(([a0.fN]:List Int):List Int)) d0 L (Am (cs:=[vI a0.fN]) (ds:=[]) rfl (AD _ _))
 refine BS 1 959 b0 rfl .plain rfl (AE (α:=Int) (xs:=([]:List Int)) (vs:=[]) (ds' :=[]) rfl d0 el45 rfl evs_nil (by kernel_rfl) rfl) fun u1 p1 k0 j0=>?_
 have t0:=Ax (cs:=[]) (xs:=(([]:List Int):List Int)) k0 L (AD _ _)
 have s0:=Ao X0 (Tt c0 j0)
 refine Be (i:=6) (rk b0) (Bs (m' :=1023) (sk b0) rfl rfl .plain rfl (AW (α:=Int) (ys:=g0.fe) y0 k0 (fun _ _=>.hd) el45 rfl rfl t0 (BG s0)) (fun F0 k1 ⟨D0,A0,B0,E0⟩=>?_))
 obtain ⟨t6,C4⟩:=AI A0 (.a1 (.a0 (.a0 (.a0 (.a0 .done)))))
 have M4:=Tt j0 (Tt B0 C4)
 exact x0 ((vS p0 1),[vI a0.fN],F0,D0) t6 (Tt c0 M4) ⟨(Au q0 M4),(Au E0 C4)⟩
 refine Bq (m' :=157) (sk b0) rfl .plain rfl (Bd 2 rfl)<|Bn [1,5,8] (rk b0) ⟨?_,?_,?_,trivial⟩
 refine BI (m' :=159) (sk b0) rfl .plain rfl (AE (α:=Int) (xs:=([]:List Int)) (vs:=[]) (ds' :=[]) rfl u0 el45 rfl evs_nil (by kernel_rfl) rfl) fun u1 p1 k0 j0=>?_
 have t0:=Ax (cs:=[]) (xs:=(([]:List Int):List Int)) k0 L (AD _ _)
 refine Bn [5,8] (rk b0) ⟨?_,?_,trivial⟩
 have v1:=Au j1 (Tt g1 j0)
 obtain ⟨z1,C1,D1,A1,W0,V0,B1⟩:=St.nthAt (α:=Tb) k0 .t1 v1 b1 Z0
 obtain ⟨W1,F1,G1,rfl,K0,q1,E1⟩:=op_Tb W0
 refine Bq (m' :=191) (sk b0) rfl .plain rfl (AL rfl (V0 2 _ rfl))<|Bn [6,8] (rk b0) ⟨?_,?_,trivial⟩
 refine Bs (m' :=255) (sk b0) rfl rfl .plain rfl (AW (α:=Int) (ys:=g0.fe) y0 k0 (fun _ _=>.hd) el45 rfl rfl t0 (BG K0)) fun Y0 H1 ⟨Q0,H0,R0,U0⟩=>Be (i:=8) (rk b0) (Bq (m' :=511) (sk b0) rfl .plain rfl (AL rfl ((H0.memA .t5) 2 _ rfl)) ?_)
 refine BS 9 1023 b0 rfl .plain rfl (AE (α:=Int) (xs:=([a0.fN]:List Int)) (vs:=[vI a0.fN]) (ds' :=[vI a0.fN]) rfl H0 el45 rfl (e1 rfl) (by kernel_rfl) rfl) fun z0 p0 d0 c0=>?_
 have q0:=Ax (cs:=[vI a0.fN]) (xs:=(([a0.fN]:List Int):List Int)) d0 L (Am (cs:=[vI a0.fN]) (ds:=[]) rfl (AD _ _))
 obtain ⟨u6,E3⟩:=AI d0 (.a0 (.a0 (.a0 (.a0 (.a0 .done)))))
 exact x0 ((vS p0 1),[vI a0.fN],Y0,Q0) u6 (Tt j0 (Tt R0 (Tt c0 E3))) ⟨(Au q0 E3),(Au U0 (Tt c0 E3))⟩
 refine Bq (m' :=447) (sk b0) rfl .plain rfl (AL rfl ((k0.memA .t5) 2 _ rfl))<|Bn [6,9] (rk b0) ⟨?_,?_,trivial⟩
 refine Bs (m' :=511) (sk b0) rfl rfl .plain rfl (AW (α:=Int) (ys:=g0.fe) y0 k0 (fun _ _=>.hd) el45 rfl rfl t0 (BG K0)) fun Y0 H1 ⟨Q0,H0,R0,U0⟩=>BS 9 1023 b0 rfl .plain rfl (AE (α:=Int) (xs:=([a0.fN]:List Int)) (vs:=[vI a0.fN]) (ds' :=[vI a0.fN]) rfl H0 el45 rfl (e1 rfl) (by kernel_rfl) rfl) fun z0 p0 d0 c0=>?_
 have q0:=Ax (cs:=[vI a0.fN]) (xs:=(([a0.fN]:List Int):List Int)) d0 L (Am (cs:=[vI a0.fN]) (ds:=[]) rfl (AD _ _))
 obtain ⟨v6,F3⟩:=AI d0 (.a0 (.a0 (.a0 (.a0 (.a0 .done)))))
 exact x0 ((vS p0 1),[vI a0.fN],Y0,Q0) v6 (Tt j0 (Tt R0 (Tt c0 F3))) ⟨(Au q0 F3),(Au U0 (Tt c0 F3))⟩
 refine BI (m' :=959) (sk b0) rfl .plain rfl (AE (α:=Int) (xs:=([a0.fN]:List Int)) (vs:=[vI a0.fN]) (ds' :=[vI a0.fN]) rfl k0 el45 rfl (e1 rfl) (by kernel_rfl) rfl) fun z0 p0 d0 c0=>?_
 have q0:=Ax (cs:=[vI a0.fN]) (xs:=(([a0.fN]:List Int):List Int)) d0 L (Am (cs:=[vI a0.fN]) (ds:=[]) rfl (AD _ _))
 have s0:=Ao K0 c0
 have P0:=Au t0 c0
 refine Be (i:=6) (rk b0) (Bs (m' :=1023) (sk b0) rfl rfl .plain rfl (AW (α:=Int) (ys:=g0.fe) y0 d0 (fun _ _=>.t1) el45 rfl rfl P0 (BG s0)) (fun M0 y1 ⟨G0,I0,C0,J0⟩=>?_))
 obtain ⟨x6,G3⟩:=AI I0 (.a0 (.a0 (.a0 (.a0 (.a0 .done)))))
 exact x0 ((vS p0 1),[vI a0.fN],M0,G0) x6 (Tt j0 (Tt c0 (Tt C0 G3))) ⟨(Au q0 (Tt C0 G3)),(Au J0 G3)⟩
 refine Bq (m' :=415) (sk b0) rfl .plain rfl (AL rfl ((k0.memA .t5) 2 _ rfl))<|Bn [5,9] (rk b0) ⟨?_,?_,trivial⟩
 have v1:=Au j1 (Tt g1 j0)
 obtain ⟨z1,C1,D1,A1,W0,V0,B1⟩:=St.nthAt (α:=Tb) k0 .t1 v1 b1 Z0
 obtain ⟨W1,F1,G1,rfl,K0,q1,E1⟩:=op_Tb W0
 refine Bq (m' :=447) (sk b0) rfl .plain rfl (AL rfl (V0 2 _ rfl))<|Bn [6,9] (rk b0) ⟨?_,?_,trivial⟩
 refine Bs (m' :=511) (sk b0) rfl rfl .plain rfl (AW (α:=Int) (ys:=g0.fe) y0 k0 (fun _ _=>.hd) el45 rfl rfl t0 (BG K0)) fun Y0 H1 ⟨Q0,H0,R0,U0⟩=>BS 9 1023 b0 rfl .plain rfl (AE (α:=Int) (xs:=([a0.fN]:List Int)) (vs:=[vI a0.fN]) (ds' :=[vI a0.fN]) rfl H0 el45 rfl (e1 rfl) (by kernel_rfl) rfl) fun z0 p0 d0 c0=>?_
 have q0:=Ax (cs:=[vI a0.fN]) (xs:=(([a0.fN]:List Int):List Int)) d0 L (Am (cs:=[vI a0.fN]) (ds:=[]) rfl (AD _ _))
 obtain ⟨y6,H3⟩:=AI d0 (.a0 (.a0 (.a0 (.a0 (.a0 .done)))))
 exact x0 ((vS p0 1),[vI a0.fN],Y0,Q0) y6 (Tt j0 (Tt R0 (Tt c0 H3))) ⟨(Au q0 H3),(Au U0 (Tt c0 H3))⟩
 refine BI (m' :=959) (sk b0) rfl .plain rfl (AE (α:=Int) (xs:=([a0.fN]:List Int)) (vs:=[vI a0.fN]) (ds' :=[vI a0.fN]) rfl k0 el45 rfl (e1 rfl) (by kernel_rfl) rfl) fun z0 p0 d0 c0=>?_
 have q0:=Ax (cs:=[vI a0.fN]) (xs:=(([a0.fN]:List Int):List Int)) d0 L (Am (cs:=[vI a0.fN]) (ds:=[]) rfl (AD _ _))
 have s0:=Ao K0 c0
 have P0:=Au t0 c0
 refine Be (i:=6) (rk b0) (Bs (m' :=1023) (sk b0) rfl rfl .plain rfl (AW (α:=Int) (ys:=g0.fe) y0 d0 (fun _ _=>.t1) el45 rfl rfl P0 (BG s0)) (fun M0 y1 ⟨G0,I0,C0,J0⟩=>?_))
 obtain ⟨z6,I3⟩:=AI I0 (.a0 (.a0 (.a0 (.a0 (.a0 .done)))))
 exact x0 ((vS p0 1),[vI a0.fN],M0,G0) z6 (Tt j0 (Tt c0 (Tt C0 I3))) ⟨(Au q0 (Tt C0 I3)),(Au J0 I3)⟩
 refine BI (m' :=927) (sk b0) rfl .plain rfl (AE (α:=Int) (xs:=([a0.fN]:List Int)) (vs:=[vI a0.fN]) (ds' :=[vI a0.fN]) rfl k0 el45 rfl (e1 rfl) (by kernel_rfl) rfl) fun z0 p0 d0 c0=>?_
 have q0:=Ax (cs:=[vI a0.fN]) (xs:=(([a0.fN]:List Int):List Int)) d0 L (Am (cs:=[vI a0.fN]) (ds:=[]) rfl (AD _ _))
 have d4:=Tt g1 (Tt j0 c0)
 have c4:=Au j1 d4
 obtain ⟨z1,C1,D1,A1,W0,V0,B1⟩:=St.nthAt (α:=Tb) d0 .t2 c4 b1 Z0
 obtain ⟨F1,G1,v5,rfl,q1,E1,U4⟩:=op_Tb W0
 refine AG 5 959 15424 b0 rfl J1 (AL rfl (V0 2 _ rfl)) rfl ?_
 have s0:=Au t0 c0
 refine Be (i:=6) (rk b0) (Bs (m' :=1023) (sk b0) rfl rfl .plain rfl (AW (α:=Int) (ys:=g0.fe) y0 d0 (fun _ _=>.t1) el45 rfl rfl s0 (BG q1)) (fun F0 k1 ⟨D0,A0,B0,E0⟩=>?_))
 obtain ⟨A6,J3⟩:=AI A0 (.a0 (.a0 (.a0 (.a0 (.a0 .done)))))
 exact x0 ((vS p0 1),[vI a0.fN],F0,D0) A6 (Tt j0 (Tt c0 (Tt B0 J3))) ⟨(Au q0 (Tt B0 J3)),(Au E0 J3)⟩
 refine Bq (m' :=189) (sk b0) rfl .plain rfl (AL rfl (X1 2 _ rfl))<|Bn [1,8] (rk b0) ⟨?_,?_,trivial⟩
 refine BI (m' :=191) (sk b0) rfl .plain rfl (AE (α:=Int) (xs:=([]:List Int)) (vs:=[]) (ds' :=[]) rfl u0 el45 rfl evs_nil (by kernel_rfl) rfl) fun u1 p1 k0 j0=>?_
 have t0:=Ax (cs:=[]) (xs:=(([]:List Int):List Int)) k0 L (AD _ _)
 refine Bn [6,8] (rk b0) ⟨?_,?_,trivial⟩
 have s0:=Ao X0 j0
 refine Bs (m' :=255) (sk b0) rfl rfl .plain rfl (AW (α:=Int) (ys:=g0.fe) y0 k0 (fun _ _=>.hd) el45 rfl rfl t0 (BG s0)) fun F0 k1 ⟨D0,A0,B0,E0⟩=>Be (i:=8) (rk b0) (Bq (m' :=511) (sk b0) rfl .plain rfl (AL rfl ((A0.memA .t5) 2 _ rfl)) ?_)
 refine BS 9 1023 b0 rfl .plain rfl (AE (α:=Int) (xs:=([a0.fN]:List Int)) (vs:=[vI a0.fN]) (ds' :=[vI a0.fN]) rfl A0 el45 rfl (e1 rfl) (by kernel_rfl) rfl) fun z0 p0 d0 c0=>?_
 have q0:=Ax (cs:=[vI a0.fN]) (xs:=(([a0.fN]:List Int):List Int)) d0 L (Am (cs:=[vI a0.fN]) (ds:=[]) rfl (AD _ _))
 obtain ⟨B6,K3⟩:=AI d0 (.a0 (.a0 (.a0 (.a0 (.a0 .done)))))
 exact x0 ((vS p0 1),[vI a0.fN],F0,D0) B6 (Tt j0 (Tt B0 (Tt c0 K3))) ⟨(Au q0 K3),(Au E0 (Tt c0 K3))⟩
 refine Bq (m' :=447) (sk b0) rfl .plain rfl (AL rfl ((k0.memA .t5) 2 _ rfl))<|Bn [6,9] (rk b0) ⟨?_,?_,trivial⟩
 have s0:=Ao X0 j0
 refine Bs (m' :=511) (sk b0) rfl rfl .plain rfl (AW (α:=Int) (ys:=g0.fe) y0 k0 (fun _ _=>.hd) el45 rfl rfl t0 (BG s0)) fun F0 k1 ⟨D0,A0,B0,E0⟩=>BS 9 1023 b0 rfl .plain rfl (AE (α:=Int) (xs:=([a0.fN]:List Int)) (vs:=[vI a0.fN]) (ds' :=[vI a0.fN]) rfl A0 el45 rfl (e1 rfl) (by kernel_rfl) rfl) fun z0 p0 d0 c0=>?_
 have q0:=Ax (cs:=[vI a0.fN]) (xs:=(([a0.fN]:List Int):List Int)) d0 L (Am (cs:=[vI a0.fN]) (ds:=[]) rfl (AD _ _))
 obtain ⟨C6,M3⟩:=AI d0 (.a0 (.a0 (.a0 (.a0 (.a0 .done)))))
 exact x0 ((vS p0 1),[vI a0.fN],F0,D0) C6 (Tt j0 (Tt B0 (Tt c0 M3))) ⟨(Au q0 M3),(Au E0 (Tt c0 M3))⟩
 refine BI (m' :=959) (sk b0) rfl .plain rfl (AE (α:=Int) (xs:=([a0.fN]:List Int)) (vs:=[vI a0.fN]) (ds' :=[vI a0.fN]) rfl k0 el45 rfl (e1 rfl) (by kernel_rfl) rfl) fun z0 p0 d0 c0=>?_
 have q0:=Ax (cs:=[vI a0.fN]) (xs:=(([a0.fN]:List Int):List Int)) d0 L (Am (cs:=[vI a0.fN]) (ds:=[]) rfl (AD _ _))
 have s0:=Ao X0 (Tt j0 c0)
 have P0:=Au t0 c0
 refine Be (i:=6) (rk b0) (Bs (m' :=1023) (sk b0) rfl rfl .plain rfl (AW (α:=Int) (ys:=g0.fe) y0 d0 (fun _ _=>.t1) el45 rfl rfl P0 (BG s0)) (fun M0 y1 ⟨G0,I0,C0,J0⟩=>?_))
 obtain ⟨D6,P3⟩:=AI I0 (.a0 (.a0 (.a0 (.a0 (.a0 .done)))))
 exact x0 ((vS p0 1),[vI a0.fN],M0,G0) D6 (Tt j0 (Tt c0 (Tt C0 P3))) ⟨(Au q0 (Tt C0 P3)),(Au J0 P3)⟩
 refine Bq (m' :=445) (sk b0) rfl .plain rfl (AL rfl ((u0.memA .t4) 2 _ rfl))<|Bn [1,9] (rk b0) ⟨?_,?_,trivial⟩
 refine BI (m' :=447) (sk b0) rfl .plain rfl (AE (α:=Int) (xs:=([]:List Int)) (vs:=[]) (ds' :=[]) rfl u0 el45 rfl evs_nil (by kernel_rfl) rfl) fun u1 p1 k0 j0=>?_
 have t0:=Ax (cs:=[]) (xs:=(([]:List Int):List Int)) k0 L (AD _ _)
 refine Bn [6,9] (rk b0) ⟨?_,?_,trivial⟩
 have s0:=Ao X0 j0
 refine Bs (m' :=511) (sk b0) rfl rfl .plain rfl (AW (α:=Int) (ys:=g0.fe) y0 k0 (fun _ _=>.hd) el45 rfl rfl t0 (BG s0)) fun F0 k1 ⟨D0,A0,B0,E0⟩=>BS 9 1023 b0 rfl .plain rfl (AE (α:=Int) (xs:=([a0.fN]:List Int)) (vs:=[vI a0.fN]) (ds' :=[vI a0.fN]) rfl A0 el45 rfl (e1 rfl) (by kernel_rfl) rfl) fun z0 p0 d0 c0=>?_
 have q0:=Ax (cs:=[vI a0.fN]) (xs:=(([a0.fN]:List Int):List Int)) d0 L (Am (cs:=[vI a0.fN]) (ds:=[]) rfl (AD _ _))
 obtain ⟨E6,Q3⟩:=AI d0 (.a0 (.a0 (.a0 (.a0 (.a0 .done)))))
 exact x0 ((vS p0 1),[vI a0.fN],F0,D0) E6 (Tt j0 (Tt B0 (Tt c0 Q3))) ⟨(Au q0 Q3),(Au E0 (Tt c0 Q3))⟩
 refine BI (m' :=959) (sk b0) rfl .plain rfl (AE (α:=Int) (xs:=([a0.fN]:List Int)) (vs:=[vI a0.fN]) (ds' :=[vI a0.fN]) rfl k0 el45 rfl (e1 rfl) (by kernel_rfl) rfl) fun z0 p0 d0 c0=>?_
 have q0:=Ax (cs:=[vI a0.fN]) (xs:=(([a0.fN]:List Int):List Int)) d0 L (Am (cs:=[vI a0.fN]) (ds:=[]) rfl (AD _ _))
 have s0:=Ao X0 (Tt j0 c0)
 have P0:=Au t0 c0
 refine Be (i:=6) (rk b0) (Bs (m' :=1023) (sk b0) rfl rfl .plain rfl (AW (α:=Int) (ys:=g0.fe) y0 d0 (fun _ _=>.t1) el45 rfl rfl P0 (BG s0)) (fun M0 y1 ⟨G0,I0,C0,J0⟩=>?_))
 obtain ⟨F6,R3⟩:=AI I0 (.a0 (.a0 (.a0 (.a0 (.a0 .done)))))
 exact x0 ((vS p0 1),[vI a0.fN],M0,G0) F6 (Tt j0 (Tt c0 (Tt C0 R3))) ⟨(Au q0 (Tt C0 R3)),(Au J0 R3)⟩
 refine BI (m' :=957) (sk b0) rfl .plain rfl (AE (α:=Int) (xs:=([a0.fN]:List Int)) (vs:=[vI a0.fN]) (ds' :=[vI a0.fN]) rfl u0 el45 rfl (e1 rfl) (by kernel_rfl) rfl) fun z0 p0 d0 c0=>?_
 have q0:=Ax (cs:=[vI a0.fN]) (xs:=(([a0.fN]:List Int):List Int)) d0 L (Am (cs:=[vI a0.fN]) (ds:=[]) rfl (AD _ _))
 refine BS 1 959 b0 rfl .plain rfl (AE (α:=Int) (xs:=([]:List Int)) (vs:=[]) (ds' :=[]) rfl d0 el45 rfl evs_nil (by kernel_rfl) rfl) fun u1 p1 k0 j0=>?_
 have t0:=Ax (cs:=[]) (xs:=(([]:List Int):List Int)) k0 L (AD _ _)
 have s0:=Ao X0 (Tt c0 j0)
 refine Be (i:=6) (rk b0) (Bs (m' :=1023) (sk b0) rfl rfl .plain rfl (AW (α:=Int) (ys:=g0.fe) y0 k0 (fun _ _=>.hd) el45 rfl rfl t0 (BG s0)) (fun F0 k1 ⟨D0,A0,B0,E0⟩=>?_))
 obtain ⟨G6,D4⟩:=AI A0 (.a1 (.a0 (.a0 (.a0 (.a0 .done)))))
 have P4:=Tt j0 (Tt B0 D4)
 exact x0 ((vS p0 1),[vI a0.fN],F0,D0) G6 (Tt c0 P4) ⟨(Au q0 P4),(Au E0 D4)⟩
 refine Bq (m' :=413) (sk b0) rfl .plain rfl (AL rfl ((u0.memA .t4) 2 _ rfl))<|Bn [1,5,9] (rk b0) ⟨?_,?_,?_,trivial⟩
 refine BI (m' :=415) (sk b0) rfl .plain rfl (AE (α:=Int) (xs:=([]:List Int)) (vs:=[]) (ds' :=[]) rfl u0 el45 rfl evs_nil (by kernel_rfl) rfl) fun u1 p1 k0 j0=>?_
 have t0:=Ax (cs:=[]) (xs:=(([]:List Int):List Int)) k0 L (AD _ _)
 refine Bn [5,9] (rk b0) ⟨?_,?_,trivial⟩
 have v1:=Au j1 (Tt g1 j0)
 obtain ⟨z1,C1,D1,A1,W0,V0,B1⟩:=St.nthAt (α:=Tb) k0 .t1 v1 b1 Z0
 obtain ⟨W1,F1,G1,rfl,K0,q1,E1⟩:=op_Tb W0
 refine Bq (m' :=447) (sk b0) rfl .plain rfl (AL rfl (V0 2 _ rfl))<|Bn [6,9] (rk b0) ⟨?_,?_,trivial⟩
 refine Bs (m' :=511) (sk b0) rfl rfl .plain rfl (AW (α:=Int) (ys:=g0.fe) y0 k0 (fun _ _=>.hd) el45 rfl rfl t0 (BG K0)) fun Y0 H1 ⟨Q0,H0,R0,U0⟩=>BS 9 1023 b0 rfl .plain rfl (AE (α:=Int) (xs:=([a0.fN]:List Int)) (vs:=[vI a0.fN]) (ds' :=[vI a0.fN]) rfl H0 el45 rfl (e1 rfl) (by kernel_rfl) rfl) fun z0 p0 d0 c0=>?_
 have q0:=Ax (cs:=[vI a0.fN]) (xs:=(([a0.fN]:List Int):List Int)) d0 L (Am (cs:=[vI a0.fN]) (ds:=[]) rfl (AD _ _))
 obtain ⟨H6,U3⟩:=AI d0 (.a0 (.a0 (.a0 (.a0 (.a0 .done)))))
 exact x0 ((vS p0 1),[vI a0.fN],Y0,Q0) H6 (Tt j0 (Tt R0 (Tt c0 U3))) ⟨(Au q0 U3),(Au U0 (Tt c0 U3))⟩
 refine BI (m' :=959) (sk b0) rfl .plain rfl (AE (α:=Int) (xs:=([a0.fN]:List Int)) (vs:=[vI a0.fN]) (ds' :=[vI a0.fN]) rfl k0 el45 rfl (e1 rfl) (by kernel_rfl) rfl) fun z0 p0 d0 c0=>?_
 have q0:=Ax (cs:=[vI a0.fN]) (xs:=(([a0.fN]:List Int):List Int)) d0 L (Am (cs:=[vI a0.fN]) (ds:=[]) rfl (AD _ _))
 have s0:=Ao K0 c0
 have P0:=Au t0 c0
 refine Be (i:=6) (rk b0) (Bs (m' :=1023) (sk b0) rfl rfl .plain rfl (AW (α:=Int) (ys:=g0.fe) y0 d0 (fun _ _=>.t1) el45 rfl rfl P0 (BG s0)) (fun M0 y1 ⟨G0,I0,C0,J0⟩=>?_))
 obtain ⟨I6,V3⟩:=AI I0 (.a0 (.a0 (.a0 (.a0 (.a0 .done)))))
 exact x0 ((vS p0 1),[vI a0.fN],M0,G0) I6 (Tt j0 (Tt c0 (Tt C0 V3))) ⟨(Au q0 (Tt C0 V3)),(Au J0 V3)⟩
 refine BI (m' :=927) (sk b0) rfl .plain rfl (AE (α:=Int) (xs:=([a0.fN]:List Int)) (vs:=[vI a0.fN]) (ds' :=[vI a0.fN]) rfl k0 el45 rfl (e1 rfl) (by kernel_rfl) rfl) fun z0 p0 d0 c0=>?_
 have q0:=Ax (cs:=[vI a0.fN]) (xs:=(([a0.fN]:List Int):List Int)) d0 L (Am (cs:=[vI a0.fN]) (ds:=[]) rfl (AD _ _))
 obtain ⟨z1,C1,D1,A1,W0,V0,B1⟩:=St.nthAt (α:=Tb) d0 .t2 (Au j1 (Tt g1 (Tt j0 c0))) b1 Z0
 obtain ⟨F1,G1,v5,rfl,q1,E1,U4⟩:=op_Tb W0
 refine AG 5 959 15424 b0 rfl J1 (AL rfl (V0 2 _ rfl)) rfl ?_
 have s0:=Au t0 c0
 refine Be (i:=6) (rk b0) (Bs (m' :=1023) (sk b0) rfl rfl .plain rfl (AW (α:=Int) (ys:=g0.fe) y0 d0 (fun _ _=>.t1) el45 rfl rfl s0 (BG q1)) (fun F0 k1 ⟨D0,A0,B0,E0⟩=>?_))
 obtain ⟨J6,W3⟩:=AI A0 (.a0 (.a0 (.a0 (.a0 (.a0 .done)))))
 exact x0 ((vS p0 1),[vI a0.fN],F0,D0) J6 (Tt j0 (Tt c0 (Tt B0 W3))) ⟨(Au q0 (Tt B0 W3)),(Au E0 W3)⟩
 refine Bq (m' :=445) (sk b0) rfl .plain rfl (AL rfl (X1 2 _ rfl))<|Bn [1,9] (rk b0) ⟨?_,?_,trivial⟩
 refine BI (m' :=447) (sk b0) rfl .plain rfl (AE (α:=Int) (xs:=([]:List Int)) (vs:=[]) (ds' :=[]) rfl u0 el45 rfl evs_nil (by kernel_rfl) rfl) fun u1 p1 k0 j0=>?_
 have t0:=Ax (cs:=[]) (xs:=(([]:List Int):List Int)) k0 L (AD _ _)
 refine Bn [6,9] (rk b0) ⟨?_,?_,trivial⟩
 have s0:=Ao X0 j0
 refine Bs (m' :=511) (sk b0) rfl rfl .plain rfl (AW (α:=Int) (ys:=g0.fe) y0 k0 (fun _ _=>.hd) el45 rfl rfl t0 (BG s0)) fun F0 k1 ⟨D0,A0,B0,E0⟩=>BS 9 1023 b0 rfl .plain rfl (AE (α:=Int) (xs:=([a0.fN]:List Int)) (vs:=[vI a0.fN]) (ds' :=[vI a0.fN]) rfl A0 el45 rfl (e1 rfl) (by kernel_rfl) rfl) fun z0 p0 d0 c0=>?_
 have q0:=Ax (cs:=[vI a0.fN]) (xs:=(([a0.fN]:List Int):List Int)) d0 L (Am (cs:=[vI a0.fN]) (ds:=[]) rfl (AD _ _))
 obtain ⟨K6,X3⟩:=AI d0 (.a0 (.a0 (.a0 (.a0 (.a0 .done)))))
 exact x0 ((vS p0 1),[vI a0.fN],F0,D0) K6 (Tt j0 (Tt B0 (Tt c0 X3))) ⟨(Au q0 X3),(Au E0 (Tt c0 X3))⟩
 refine BI (m' :=959) (sk b0) rfl .plain rfl (AE (α:=Int) (xs:=([a0.fN]:List Int)) (vs:=[vI a0.fN]) (ds' :=[vI a0.fN]) rfl k0 el45 rfl (e1 rfl) (by kernel_rfl) rfl) fun z0 p0 d0 c0=>?_
 have q0:=Ax (cs:=[vI a0.fN]) (xs:=(([a0.fN]:List Int):List Int)) d0 L (Am (cs:=[vI a0.fN]) (ds:=[]) rfl (AD _ _))
 have s0:=Ao X0 (Tt j0 c0)
 refine Be (i:=6) (rk b0) (Bs (m' :=1023) (sk b0) rfl rfl .plain rfl (AW (α:=Int) (ys:=g0.fe) y0 d0 (fun _ _=>.t1) el45 rfl rfl (Au t0 c0) (BG s0)) (fun M0 y1 ⟨G0,I0,C0,J0⟩=>?_))
 obtain ⟨M6,Y3⟩:=AI I0 (.a0 (.a0 (.a0 (.a0 (.a0 .done)))))
 exact x0 ((vS p0 1),[vI a0.fN],M0,G0) M6 (Tt j0 (Tt c0 (Tt C0 Y3))) ⟨(Au q0 (Tt C0 Y3)),(Au J0 Y3)⟩
 refine BI (m' :=957) (sk b0) rfl .plain rfl (AE (α:=Int) (xs:=([a0.fN]:List Int)) (vs:=[vI a0.fN]) (ds' :=[vI a0.fN]) rfl u0 el45 rfl (e1 rfl) (by kernel_rfl) rfl) fun z0 p0 d0 c0=>?_
 have q0:=Ax (cs:=[vI a0.fN]) (xs:=(([a0.fN]:List Int):List Int)) d0 L (Am (cs:=[vI a0.fN]) (ds:=[]) rfl (AD _ _))
 refine BS 1 959 b0 rfl .plain rfl (AE (α:=Int) (xs:=([]:List Int)) (vs:=[]) (ds' :=[]) rfl d0 el45 rfl evs_nil (by kernel_rfl) rfl) fun u1 p1 k0 j0=>?_
 have t0:=Ax (cs:=[]) (xs:=(([]:List Int):List Int)) k0 L (AD _ _)
 have s0:=Ao X0 (Tt c0 j0)
 refine Be (i:=6) (rk b0) (Bs (m' :=1023) (sk b0) rfl rfl .plain rfl (AW (α:=Int) (ys:=g0.fe) y0 k0 (fun _ _=>.hd) el45 rfl rfl t0 (BG s0)) (fun F0 k1 ⟨D0,A0,B0,E0⟩=>?_))
 obtain ⟨P6,E4⟩:=AI A0 (.a1 (.a0 (.a0 (.a0 (.a0 .done)))))
 have Q4:=Tt j0 (Tt B0 E4)
 exact x0 ((vS p0 1),[vI a0.fN],F0,D0) P6 (Tt c0 Q4) ⟨(Au q0 Q4),(Au E0 E4)⟩
 refine BI (m' :=925) (sk b0) rfl .plain rfl (AE (α:=Int) (xs:=([a0.fN]:List Int)) (vs:=[vI a0.fN]) (ds' :=[vI a0.fN]) rfl u0 el45 rfl (e1 rfl) (by kernel_rfl) rfl) fun z0 p0 d0 c0=>?_
 have q0:=Ax (cs:=[vI a0.fN]) (xs:=(([a0.fN]:List Int):List Int)) d0 L (Am (cs:=[vI a0.fN]) (ds:=[]) rfl (AD _ _))
 obtain ⟨z1,C1,D1,A1,W0,V0,B1⟩:=St.nthAt (α:=Tb) d0 .t1 (Au j1 (Tt g1 c0)) b1 Z0
 obtain ⟨W1,F1,G1,rfl,K0,q1,E1⟩:=op_Tb W0
 refine AG 5 957 15424 b0 rfl J1 (AL rfl (V0 2 _ rfl)) rfl<|BS 1 959 b0 rfl .plain rfl (AE (α:=Int) (xs:=([]:List Int)) (vs:=[]) (ds' :=[]) rfl d0 el45 rfl evs_nil (by kernel_rfl) rfl) fun u1 p1 k0 j0=>Be (i:=6) (rk b0) (Bs (m' :=1023) (sk b0) rfl rfl .plain rfl (AW (α:=Int) (ys:=g0.fe) y0 k0 (fun _ _=>.hd) el45 rfl rfl (Ax (cs:=[]) (xs:=(([]:List Int):List Int)) k0 L (AD _ _)) (BG (Ao K0 j0))) (fun F0 k1 ⟨D0,A0,B0,E0⟩=>?_))
 obtain ⟨Q6,F4⟩:=AI A0 (.a1 (.a0 (.a0 (.a0 (.a0 .done)))))
 have R4:=Tt j0 (Tt B0 F4)
 exact x0 ((vS p0 1),[vI a0.fN],F0,D0) Q6 (Tt c0 R4) ⟨(Au q0 R4),(Au E0 F4)⟩
 refine Ac<|Ab (BQ (i:=(a0.fE % (7:UInt8)).toNat) (j:=3) rfl rfl)<|Af rfl<|Aa<|AS rfl h (fun E5 h=>?_) (fun E5 h=>?_)
 refine Av<|Ae rfl<|Ae rfl<|Ab (FV.nilCheck rfl)<|AV 5 rfl<|AP rfl (X1 5 _ rfl)<|Ab (Bo rfl)<|Ab (FV.nilCheck rfl)<|AV 5 rfl ?_
 obtain ⟨J9,K7,c01,k00,v8,s01,E7⟩:=St.nthAt (α:=Tb) u0 .hd I1 b1 Z0
 obtain ⟨d5,g5,j5,rfl,x8,y8,z8⟩:=op_Tb v8
 refine bk h fun y9 g9 h=>RG.acts' .plain (Acts.setPart (α:=Tb) (i:=K1.toNat) (tot:=5) (ds:=[.string g0.fw,vI g0.fv,d5,g5,j5,.bool g0.fu]) (news:=[.bool (!g0.fu)]) (full:=[.string g0.fw,vI g0.fv,d5,g5,j5,.bool (!g0.fu)]) g9 u0 K7 (fun _=>.hd) I1 E7 rfl (by kernel_rfl) rfl rfl rfl rfl (mk_Tb g0.fw g0.fv g0.fe x8 g0.fC y8 g0.fB z8 (!g0.fu)) (by kernel_rfl) (o1 rfl)) fun g02 ⟨p00,J2,J00,z7⟩=>Aa<|AA<|Ac<|Ab (AK rfl (J2.memA .t1))<|AQ [vI a1.fe,vI a1.fh,vI a1.fj,v0] J2 .t2 (o4 rfl rfl rfl (St.o1 (α:=Tb) J2 .hd)) fun j02 K2 b7=>Aa<|Al rfl ?_
 have g2:=By K2 .hd
 have K00:=Bz K2 .hd
 have A8:=BA (α:=Tb) (v:=v0) (xs:=y9) g2 L (Bj (α:=Tb) K2 .hd (Au z7 b7) hL)
 refine Ap hb0 Tryz.func34 rfl (.cons (.many (cs:=[vI a1.fe,vI a1.fh,vI a1.fj,v0]) (by kernel_rfl) rfl (g2.memA .t1)) .nil) rfl ?_
 cases h
 exact ⟨g2.ag,fun p q=>⟨v0,rfl,g2.kd A8 q⟩⟩
 refine Ac<|Ab (BQ (i:=(a0.fE % (7:UInt8)).toNat) (j:=4) rfl rfl)<|Af rfl<|Aa<|AS rfl h (fun F5 h=>?_) (fun F5 h=>?_)
 refine Av<|Ae rfl<|AV 3 rfl<|AP rfl ((u0.memA .t1) 3 _ rfl)<|bk h fun u4 W8 h=>?_
 obtain ⟨z5,K9,Z3,G4,q00,B8,X7⟩:=St.nth (α:=Tb) u0 .hd I1 W8
 obtain ⟨B5,M9,M7⟩:=BU (α:=Tb) u0 .hd G4
 obtain rfl:z5 = ⟨B5,0,none⟩:=by rw [M7] at Z3; cases Z3; rfl
 obtain ⟨F01,G01,H01,rfl,z01,A01,B01⟩:=op_Tb B8
 refine Ab (Bm 6 0 rfl Z3 rfl rfl G4)<|AV 0 rfl<|AP rfl (X7 0 _ rfl)<|Ab (FV.nilCheck rfl)<|AV 0 rfl ?_
 obtain ⟨P9,P7,d01,s00,C8,t01,F7⟩:=St.nthAt (α:=Tb) u0 .hd I1 b1 Z0
 obtain ⟨k5,p5,q5,rfl,D8,E8,F8⟩:=op_Tb C8
 refine bk h fun z9 j9 h=>RG.acts' .plain (Acts.setPart (α:=Tb) (i:=K1.toNat) (tot:=0) (ds:=[.string g0.fw,vI g0.fv,k5,p5,q5,.bool g0.fu]) (news:=[.string u4.fw]) (full:=[.string u4.fw,vI g0.fv,k5,p5,q5,.bool g0.fu]) j9 u0 P7 (fun _=>.hd) I1 F7 rfl (by kernel_rfl) rfl rfl rfl rfl (mk_Tb u4.fw g0.fv g0.fe D8 g0.fC E8 g0.fB F8 g0.fu) (by kernel_rfl) (o1 rfl)) fun k02 ⟨t00,M2,M00,A7⟩=>Aa<|AA<|Ac<|Ab (AK rfl (M2.memA .t1))<|AQ [vI a1.fe,vI a1.fh,vI a1.fj,v0] M2 .t2 (o4 rfl rfl rfl (St.o1 (α:=Tb) M2 .hd)) fun p02 P2 c7=>Aa<|Al rfl ?_
 have j2:=By P2 .hd
 have P00:=Bz P2 .hd
 have G8:=BA (α:=Tb) (v:=v0) (xs:=z9) j2 L (Bj (α:=Tb) P2 .hd (Au A7 c7) hL)
 refine Ap hb0 Tryz.func34 rfl (.cons (.many (cs:=[vI a1.fe,vI a1.fh,vI a1.fj,v0]) (by kernel_rfl) rfl (j2.memA .t1)) .nil) rfl ?_
 cases h
 exact ⟨j2.ag,fun p q=>⟨v0,rfl,j2.kd G8 q⟩⟩
 refine Ac<|Ab (BQ (i:=(a0.fE % (7:UInt8)).toNat) (j:=5) rfl rfl)<|Af rfl<|Aa<|AS rfl h (fun G5 h=>?_) (fun G5 h=>?_)
 refine Av<|AV 2 rfl<|AP rfl ((u0.memA .t4) 2 _ rfl)<|AV 2 rfl<|RG.now .plain (BP (j:=2) (old:=[vI a1.fe,vI a1.fh,vI a1.fj,v0]) (news:=[vI a0.fN]) (new' :=[vI a1.fe,vI a1.fh,vI a0.fN,v0]) u0 .t1 rfl rfl rfl rfl rfl rfl (o1 rfl) rfl) fun q02 Q2 d7=>Aa<|AA<|Ac<|Ab (AK rfl (Q2.memA .t1))<|AQ [vI a1.fe,vI a1.fh,vI a0.fN,v0] Q2 .t2 (o4 rfl rfl rfl (St.o1 (α:=Tb) Q2 .hd)) fun s02 R2 g7=>Aa<|Al rfl ?_
 have k2:=By R2 .hd
 have Q00:=Bz R2 .hd
 have H8:=BA (α:=Tb) (v:=v0) (xs:=M1) k2 L (Bj (α:=Tb) R2 .hd (Au j1 (Tt g1 (Tt d7 g7))) hL)
 refine Ap hb0 Tryz.func34 rfl (.cons (.many (cs:=[vI a1.fe,vI a1.fh,vI a0.fN,v0]) (by kernel_rfl) rfl (k2.memA .t1)) .nil) rfl ?_
 cases h
 exact ⟨k2.ag,fun p q=>⟨v0,rfl,k2.kd H8 q⟩⟩
 refine Av<|Ae rfl<|AV 2 rfl<|AP rfl ((u0.memA .t4) 2 _ rfl)<|Ak .plain rfl (AE (α:=Int) (xs:=([a0.fN]:List Int)) (vs:=[vI a0.fN]) (ds' :=[vI a0.fN]) rfl u0 el45 rfl (e1 rfl) (by kernel_rfl) rfl) fun t02 x2 p2 j7=>Ab (FV.nilCheck rfl)<|AV 4 rfl ?_
 have U2:=By p2 .hd
 have k4:=BA (α:=Int) (v:=(vS x2 1)) (xs:=([a0.fN]:List Int)) U2 L (Bj (α:=Int) p2 .hd (Ax (cs:=[vI a0.fN]) (xs:=(([a0.fN]:List Int):List Int)) p2 L (Am (cs:=[vI a0.fN]) (ds:=[]) rfl (AD _ _))) hL)
 have K4:=Au j1 (Tt g1 (Tt j7 (Bz p2 .hd)))
 obtain ⟨Q9,Q7,g01,u00,I8,u01,G7⟩:=St.nthAt (α:=Tb) U2 .hd K4 b1 Z0
 obtain ⟨s5,u5,t9,rfl,J8,K8,C01⟩:=op_Tb I8
 refine bk h fun A9 k9 h=>RG.acts' .plain (Acts.setPart (α:=Tb) (i:=K1.toNat) (tot:=4) (ds:=[.string g0.fw,vI g0.fv,s5,u5,t9,.bool g0.fu]) (news:=[(vS x2 1)]) (full:=[.string g0.fw,vI g0.fv,s5,u5,(vS x2 1),.bool g0.fu]) k9 U2 Q7 (fun _=>.hd) K4 G7 rfl (by kernel_rfl) rfl rfl rfl (Rep.c1 k4) (mk_Tb g0.fw g0.fv g0.fe J8 g0.fC K8 ([a0.fN]:List Int) k4 g0.fu) (by kernel_rfl) (o1 (AR k4))) fun u02 ⟨v00,V2,R00,B7⟩=>Aa<|AA<|Ac<|Ab (AK rfl (V2.memA .t1))<|AQ [vI a1.fe,vI a1.fh,vI a1.fj,v0] V2 .t2 (o4 rfl rfl rfl (St.o1 (α:=Tb) V2 .hd)) fun v02 W2 k7=>Aa<|Al rfl ?_
 have q2:=By W2 .hd
 have U00:=Bz W2 .hd
 have M8:=BA (α:=Tb) (v:=v0) (xs:=A9) q2 L (Bj (α:=Tb) W2 .hd (Au B7 k7) hL)
 refine Ap hb0 Tryz.func34 rfl (.cons (.many (cs:=[vI a1.fe,vI a1.fh,vI a1.fj,v0]) (by kernel_rfl) rfl (q2.memA .t1)) .nil) rfl ?_
 cases h
 exact ⟨q2.ag,fun p q=>⟨v0,rfl,q2.kd M8 q⟩⟩
end Go.Proofs.YtgejkdheojkfiaaGreatDoor
