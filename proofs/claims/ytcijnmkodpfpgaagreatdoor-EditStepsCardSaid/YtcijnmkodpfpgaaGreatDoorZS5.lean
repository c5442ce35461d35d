/- Functions of the program, and what they give: part 5. -/
import Derived.Test.YtcijnmkodpfpgaaGreatDoorZS4
namespace Go.Proofs.YtcijnmkodpfpgaaGreatDoor
open Go Go.RowKit
set_option maxRecDepth 4000
set_option maxHeartbeats 4000000

theorem body69:bodyB Tryz.prog 69 = true:=by kernel_rfl
def wardmoteref22_Draft_list_l1 (n:Nat) (a1:Int) (a2:Int) (a0:TDraft26) (a3:Int) (d0:Int × (List Int) → Option (List Int)):Int × (List Int) → Option (List Int)
  | (b0,c0)=>(if b0 < a1 then (chk (a2 + b0)).bind fun g0=>(wardmoteref22_Draft_num_p n a0 g0).bind fun p0=>(app c0 ([min p0 a3]:List Int)).bind fun k0=>(chk (b0 + 1)).bind fun j0=>d0 (j0,k0) else some c0)
def wardmoteref22_Draft_list_p (n:Nat) (a0:TDraft26) (a1:Int) (a2:Int) (a3:Int):Option (List Int):=
  Option.bind (loopF (wardmoteref22_Draft_list_l1 n a1 a2 a0 a3) n (0,([]:List Int))) (fun b0=>some b0)
theorem wardmoteref22_Draft_list_c (n:Nat) (L:List Nat) (w:World) (hL:∀ b ∈ L,b < w.heap.size) (a0:TDraft26) {v0_4:Value} (h0_4:Rep.R w L [v0_4] a0.fNums) (a1:Int) (a2:Int) (a3:Int)  {r:List Int} (h:wardmoteref22_Draft_list_p n a0 a1 a2 a3 = some r) :
    Calls Tryz.prog 70 #[.agg #[.int .u8 (a0.fGroups.toNat:Int),.int .u8 (a0.fParties.toNat:Int),.int .u8 (a0.fLevels.toNat:Int),.int .u8 (a0.fWater.toNat:Int),v0_4],vI a1,vI a2,vI a3] w (Gives w fun w' u=>∃ v0_0:Value,u = v0_0∧Rep.R w' L [v0_0] r):=by
 unfold wardmoteref22_Draft_list_p at h
 have hS0:=AK w
 refine AM Tryz.func70 rfl rfl rfl (fun _ cs0 hb0=>?_)
 refine Ae<|Az .plain rfl (AI hS0 rfl rfl) (fun w2 b5 hS3 hT4=>?_)
 refine Ag rfl<|Aa<|Ae<|Ag rfl<|Aa<|Ak<|Ae<|Ag rfl<|Aa<|AB ?_
 have hS7:=hS3.nilRow 3 (Rep.size Int)
 have hT8:=St.nilRowT hS3 3 (Rep.size Int)
 have hc9:=Ar (cs:=[]) (xs:=([]:List Int)) hS7 L (AC _ _)
 obtain ⟨j1,K0,H0⟩:=bind_in2 h
 refine Bp (α:=Int × (List Int) × Value × (List Value)) (fun ⟨g0,c0,b0,j0⟩=>[(1,vI a1),(2,vI a2),(3,vI a3),(4,vP b5),(9,b0),(10,vI g0)]) (fun ⟨g0,c0,b0,j0⟩ q0=>St w q0 [.row w.heap.size 3 (Rep.size Int) b0 c0.length j0,.cells b5 [.int .u8 (a0.fGroups.toNat:Int),.int .u8 (a0.fParties.toNat:Int),.int .u8 (a0.fLevels.toNat:Int),.int .u8 (a0.fWater.toNat:Int),v0_4] 27]∧Tr w2 [.row w.heap.size 3 (Rep.size Int) vN (([]:List Int).length) [],.cells b5 [.int .u8 (a0.fGroups.toNat:Int),.int .u8 (a0.fParties.toNat:Int),.int .u8 (a0.fLevels.toNat:Int),.int .u8 (a0.fWater.toNat:Int),v0_4] 27] q0 [.row w.heap.size 3 (Rep.size Int) b0 c0.length j0,.cells b5 [.int .u8 (a0.fGroups.toNat:Int),.int .u8 (a0.fParties.toNat:Int),.int .u8 (a0.fLevels.toNat:Int),.int .u8 (a0.fWater.toNat:Int),v0_4] 27]∧Cells q0 (bl [.row w.heap.size 3 (Rep.size Int) b0 c0.length j0,.cells b5 [.int .u8 (a0.fGroups.toNat:Int),.int .u8 (a0.fParties.toNat:Int),.int .u8 (a0.fLevels.toNat:Int),.int .u8 (a0.fWater.toNat:Int),v0_4] 27] ++ L) j0 c0) (fun ⟨g0,c0,b0,j0⟩=>(g0,c0)) (0,([]:List Int),vN,[]) K0 ⟨rfl,rfl,rfl,rfl,rfl,rfl,trivial⟩ ⟨hS7,AN _ _,hc9⟩ ?_
 rintro c1 ⟨g0,c0,b0,j0⟩ q0 A0 ⟨p0,D0,x0⟩ h
 unfold wardmoteref22_Draft_list_l1 at h
 try dsimp only at h
 refine Ak<|Ae<|Ac rfl<|Ac rfl<|Ab (BF (i:=g0) (j:=a1) rfl rfl)<|Aa<|AW rfl h (fun y0 h=>?_) (fun y0 h=>?_)
 refine Ao<|Ak<|AB<|Aw<|Ac rfl<|Ab (AG rfl (p0.memA (.tl .hd)))<|Ac rfl<|Ac rfl ?_
 obtain ⟨X0,R0,h⟩:=bi h
 refine Ab (BT (i:=a2) (j:=g0) rfl rfl R0) ?_
 obtain ⟨d0,W0,h⟩:=bi h
 refine BE (vI d0) body69 rfl (e2 rfl rfl) (fun w9 hw9=>wardmoteref22_Draft_num_c n _ w9 (p0.hL0 hL hw9) a0 (p0.k0 h0_4 hw9) X0 W0) rfl<|Ac rfl<|Ab (FV.min2 (i:=d0) (j:=a3) rfl rfl)<|Az .plain rfl (AE (α:=Int) (xs:=([min d0 a3]:List Int)) (vs:=[vI (min d0 a3)]) (ds' :=[vI (min d0 a3)]) rfl p0 el42 rfl (e1 rfl) (by kernel_rfl) rfl) (fun k1 d1 s0 u0=>?_)
 have F0:=Ar (cs:=[vI (min d0 a3)]) (xs:=(([min d0 a3]:List Int):List Int)) s0 L (Aq (cs:=[vI (min d0 a3)]) (ds:=[]) rfl (AC _ _))
 obtain ⟨b1,V0,h⟩:=bi h
 have I0:=Al x0 u0
 refine RG.doesL .plain rfl (AR (α:=Int) (ys:=([min d0 a3]:List Int)) V0 s0 (fun _ _=>(.tl .hd)) el42 rfl rfl I0 (Src.row (α:=Int) s0 .hd F0)) (fun Z0 p1 ⟨z0,B0,E0,G0⟩=>?_)
 refine Ag rfl<|Aa<|AF<|Aw<|Ac rfl ?_
 obtain ⟨Y0,U0,h⟩:=bi h
 refine Ab (BT (i:=g0) (j:=1) rfl rfl U0)<|Ag rfl<|Aa ?_
 obtain ⟨C0,v0⟩:=AD B0 (.one (.tl .hd) (.one (.tl .hd) .done))
 have J0:=Al G0 v0
 have M0:=Tt u0 (Tt E0 v0)
 exact A0 (Y0,b1,Z0,z0) _ _ ⟨rfl,rfl,rfl,rfl,rfl,rfl,trivial⟩ ⟨C0,(Tt D0 M0),J0⟩ h
 refine Bd rfl ?_
 have h:=H0 _ h
 try dsimp only at h
 refine Ae<|Ac rfl<|Ag rfl<|Aa<|Am rfl ?_
 have Q0:=AQ (α:=Int) p0 .hd x0 hL
 have t0:=Bf p0 .hd
 have g1:=Bg p0 .hd
 have P0:=Bh (α:=Int) (v:=b0) (xs:=c0) t0 L Q0
 refine AJ hb0 Tryz.func70 rfl rfl ?_
 cases h
 exact ⟨t0.ag,fun w9 hw9=>⟨b0,rfl,t0.kd P0 hw9⟩⟩
def tb39_5:List (Nat × Nat × Nat):=[(0,268435456,64),(1,536870912,268435456),(2,1073741824,536870912),(4,2147483648,1073741824),(0,4294967296,64),(16,8589934592,4294967296),(32,17179869184,8589934592),(64,34359738368,17179869184),(128,68719476736,34359738368),(264,137438953472,70866960384),(512,274877906944,137438953472),(1024,549755813888,274877906944),(0,1099511627776,4),(0,2199023255552,64),(8192,4398046511104,2199023255552),(20480,8796093022208,5497558138880),(34816,17592186044416,9345848836096),(0,128,0),(262143,0,17592186044544)]
def tb39_11:List (Nat × Nat × Nat):=[(0,590295810358705651712,128),(1,1180591620717411303424,590295810358705651712),(0,2361183241434822606848,4),(0,4722366482869645213696,64),(8,9444732965739290427392,4722366482869645213696),(16,18889465931478580854784,9444732965739290427392),(0,37778931862957161709568,256),(96,75557863725914323419136,56668397794435742564352),(132,151115727451828646838272,77919046967349146025984),(256,302231454903657293676544,151115727451828646838272),(512,604462909807314587353088,302231454903657293676544),(1282,1208925819614629174706176,605643501428031998656512),(4095,2417851639229258349412352,128),(8191,0,3626777458843887524118528)]
def tb39_16:List (Nat × Nat × Nat):=[(0,79228162514264337593543950336,32),(1,158456325028528675187087900672,79228162514264337593543950336),(0,316912650057057350374175801344,32),(4,633825300114114700748351602688,316912650057057350374175801344),(8,1267650600228229401496703205376,633825300114114700748351602688),(0,2535301200456458802993406410752,32),(32,5070602400912917605986812821504,2535301200456458802993406410752),(64,10141204801825835211973625643008,5070602400912917605986812821504),(0,20282409603651670423947251286016,32),(256,40564819207303340847894502572032,20282409603651670423947251286016),(512,81129638414606681695789005144064,40564819207303340847894502572032),(1168,162259276829213363391578010288128,92538493816660746309259333992448),(2048,324518553658426726783156020576256,162259276829213363391578010288128),(4098,649037107316853453566312041152512,324677009983455255458343108476928),(16383,1298074214633706907132624082305024,32),(32767,0,1947111321950560360698936123457536)]
theorem el22:ElT Tryz.prog 22 5 (Rep.size UInt8) 1 (.int .u8 0) [.int .u8 0]:=⟨Tryz.underlying22,by kernel_rfl,rfl,rfl,rfl,rfl⟩
theorem body70:bodyB Tryz.prog 70 = true:=by kernel_rfl
def wardmoteref22_Draft_Roll_l1 (n:Nat) (a0:TDraft26) (t0:Int) (d0:Nat × (List Int) → Option (List Int)):Nat × (List Int) → Option (List Int)
  | (b0,c0)=>(if b0 < ((a0.fLevels % (3:UInt8)).toNat) then (chk (9 * t0)).bind fun g0=>(chk (g0 + 7)).bind fun j0=>(chk (j0 + ((b0:Nat):Int))).bind fun k0=>(wardmoteref22_Draft_num_p n a0 k0).bind fun s0=>(remI s0 3).bind fun p0=>(app c0 ([p0]:List Int)).bind fun q0=>d0 (b0 + 1,q0) else some c0)
def wardmoteref22_Draft_Roll_l2 (_n:Nat) (a0:TDraft26) (d0:Nat × (List TUnit) → Option (List TUnit)):Nat × (List TUnit) → Option (List TUnit)
  | (b0,c0)=>(if b0 < ((a0.fWater % (2:UInt8)).toNat) then (mk (((a0.fGroups % (3:UInt8)).toNat:Nat):Int) (0:Int)).bind fun g0=>(mk (((a0.fParties % (4:UInt8)).toNat:Nat):Int) (0:Int)).bind fun j0=>(mk (((a0.fLevels % (3:UInt8)).toNat:Nat):Int) (0:Int)).bind fun k0=>(app c0 ([(⟨⟨#[115,101,97]⟩,(0:Int),g0,j0,k0,true⟩:TUnit)]:List TUnit)).bind fun p0=>d0 (b0 + 1,p0) else some c0)
def wardmoteref22_Draft_Roll_l3 (n:Nat) (a1:Int) (a0:TDraft26) (g0:Int × (List TUnit) → Option (List TUnit)):Int × (List TUnit) → Option (List TUnit)
  | (b0,c0)=>(if b0 < a1 then (remI b0 26).bind fun j0=>(chk (97 + j0)).bind fun k0=>(quoI b0 26).bind fun p0=>(remI p0 26).bind fun q0=>(chk (97 + q0)).bind fun s0=>(chk (9 * b0)).bind fun t0=>(wardmoteref22_Draft_num_p n a0 t0).bind fun d0=>(sadd ⟨#[117]⟩ (bstr ([u8ofI k0,u8ofI s0]:List UInt8))).bind fun u0=>(chk (9 * b0)).bind fun v0=>(chk (v0 + 1)).bind fun x0=>(wardmoteref22_Draft_list_p n a0 (((a0.fGroups % (3:UInt8)).toNat:Nat):Int) x0 d0).bind fun D0=>(chk (9 * b0)).bind fun y0=>(chk (y0 + 3)).bind fun z0=>(wardmoteref22_Draft_list_p n a0 (((a0.fParties % (4:UInt8)).toNat:Nat):Int) z0 (255:Int)).bind fun E0=>Option.bind (loopF (wardmoteref22_Draft_Roll_l1 n a0 b0) n (0,([]:List Int))) (fun B0=>(app c0 ([(⟨u0,d0,D0,E0,B0,false⟩:TUnit)]:List TUnit)).bind fun C0=>(chk (b0 + 1)).bind fun A0=>g0 (A0,C0)) else some c0)
def wardmoteref22_Draft_Roll_p (n:Nat) (a0:TDraft26) (a1:Int):Option TRoll:=
  Option.bind (loopF (wardmoteref22_Draft_Roll_l3 n a1 a0) n (0,([]:List TUnit))) (fun c0=>Option.bind (loopF (wardmoteref22_Draft_Roll_l2 n a0) n (0,c0)) (fun b0=>some (⟨(((a0.fGroups % (3:UInt8)).toNat:Nat):Int),(((a0.fParties % (4:UInt8)).toNat:Nat):Int),(((a0.fLevels % (3:UInt8)).toNat:Nat):Int),b0⟩:TRoll)))
theorem wardmoteref22_Draft_Roll_c (n:Nat) (L:List Nat) (w:World) (hL:∀ b ∈ L,b < w.heap.size) (a0:TDraft26) {v0_4:Value} (h0_4:Rep.R w L [v0_4] a0.fNums) (a1:Int)  {r:TRoll} (h:wardmoteref22_Draft_Roll_p n a0 a1 = some r) :
    Calls Tryz.prog 39 #[.agg #[.int .u8 (a0.fGroups.toNat:Int),.int .u8 (a0.fParties.toNat:Int),.int .u8 (a0.fLevels.toNat:Int),.int .u8 (a0.fWater.toNat:Int),v0_4],vI a1] w (Gives w fun w' u=>∃ v0_3:Value,u = .agg #[vI r.fGroups,vI r.fParties,vI r.fLevels,v0_3]∧Rep.R w' L [v0_3] r.fUnits):=by
 unfold wardmoteref22_Draft_Roll_p at h
 have hS0:=AK w
 refine AM Tryz.func39 rfl rfl rfl (fun _ cs0 hb0=>?_)
 refine Ae<|Az .plain rfl (AI hS0 rfl rfl) (fun w2 b5 hS3 hT4=>?_)
 refine Az .plain rfl (AX [vI 0,vI 0,vI 0,vN] hS3) (fun w7 g0 hS8 hT9=>?_)
 refine Aa<|Ae<|AH 0 rfl<|AS rfl ((hS8.memA (.tl .hd)) 0 _ rfl)<|Ab (FV.rem8 (a:=a0.fGroups) (b:=(3:UInt8)) rfl rfl (by decide)) ?_
 have s9:=(a0.fGroups % (3:UInt8)).toNat_lt
 refine Ab (FV.convN (i:=(a0.fGroups % (3:UInt8)).toNat) Tryz.underlying5 Tryz.underlying3 rfl (by omega))<|AH 1 rfl<|AS rfl ((hS8.memA (.tl .hd)) 1 _ rfl)<|Ab (FV.rem8 (a:=a0.fParties) (b:=(4:UInt8)) rfl rfl (by decide)) ?_
 have t9:=(a0.fParties % (4:UInt8)).toNat_lt
 refine Ab (FV.convN (i:=(a0.fParties % (4:UInt8)).toNat) Tryz.underlying5 Tryz.underlying3 rfl (by omega))<|AH 2 rfl<|AS rfl ((hS8.memA (.tl .hd)) 2 _ rfl)<|Ab (FV.rem8 (a:=a0.fLevels) (b:=(3:UInt8)) rfl rfl (by decide)) ?_
 have u9:=(a0.fLevels % (3:UInt8)).toNat_lt
 refine Ab (FV.convN (i:=(a0.fLevels % (3:UInt8)).toNat) Tryz.underlying5 Tryz.underlying3 rfl (by omega))<|Ab (AV (vs:=[vI (((a0.fGroups % (3:UInt8)).toNat:Nat):Int),vI (((a0.fParties % (4:UInt8)).toNat:Nat):Int),vI (((a0.fLevels % (3:UInt8)).toNat:Nat):Int)]) (u:=.agg #[vI (((a0.fGroups % (3:UInt8)).toNat:Nat):Int),vI (((a0.fParties % (4:UInt8)).toNat:Nat):Int),vI (((a0.fLevels % (3:UInt8)).toNat:Nat):Int),vN]) (e3 rfl rfl rfl) (fun w9=>by kernel_rfl))<|Az .plain rfl (AX [vI 0,vI 0,vI 0,vN] hS8) (fun F9 j0 A4 g9=>?_)
 refine Bk [vI (((a0.fGroups % (3:UInt8)).toNat:Nat):Int),vI (((a0.fParties % (4:UInt8)).toNat:Nat):Int),vI (((a0.fLevels % (3:UInt8)).toNat:Nat):Int),vN] A4 .hd (onesB rfl) (fun p8 c3 j9=>?_)
 refine Aa<|Ak<|Ae<|Ag rfl<|Aa<|AB ?_
 have v2:=c3.nilRow 70 (Rep.size TUnit)
 have k9:=St.nilRowT c3 70 (Rep.size TUnit)
 have u5:=Ar (cs:=[]) (xs:=([]:List TUnit)) v2 L (AC _ _)
 have d3:=v2.nilRow 70 (Rep.size TUnit)
 have R4:=St.nilRowT v2 70 (Rep.size TUnit)
 have p9:=Ar (cs:=[]) (xs:=([]:List TUnit)) d3 L (AC _ _)
 have y6:=Al u5 R4
 obtain ⟨x9,J6,F5⟩:=bind_in2 h
 refine Bp (α:=Int × (List TUnit) × Value × (List Value)) (fun ⟨M0,v0,d0,x0⟩=>[(1,vI a1),(2,vP b5),(4,vP g0),(5,vP j0),(6,vI M0)]) (fun ⟨M0,v0,d0,x0⟩ M1=>St w M1 [.row w.heap.size 70 (Rep.size TUnit) vN (([]:List TUnit).length) [],.row w.heap.size 70 (Rep.size TUnit) d0 v0.length x0,.cells j0 [vI (((a0.fGroups % (3:UInt8)).toNat:Nat):Int),vI (((a0.fParties % (4:UInt8)).toNat:Nat):Int),vI (((a0.fLevels % (3:UInt8)).toNat:Nat):Int),d0] 41,.cells g0 [vI 0,vI 0,vI 0,vN] 41,.cells b5 [.int .u8 (a0.fGroups.toNat:Int),.int .u8 (a0.fParties.toNat:Int),.int .u8 (a0.fLevels.toNat:Int),.int .u8 (a0.fWater.toNat:Int),v0_4] 27]∧Tr p8 [.row w.heap.size 70 (Rep.size TUnit) vN (([]:List TUnit).length) [],.row w.heap.size 70 (Rep.size TUnit) vN (([]:List TUnit).length) [],.cells j0 [vI (((a0.fGroups % (3:UInt8)).toNat:Nat):Int),vI (((a0.fParties % (4:UInt8)).toNat:Nat):Int),vI (((a0.fLevels % (3:UInt8)).toNat:Nat):Int),vN] 41,.cells g0 [vI 0,vI 0,vI 0,vN] 41,.cells b5 [.int .u8 (a0.fGroups.toNat:Int),.int .u8 (a0.fParties.toNat:Int),.int .u8 (a0.fLevels.toNat:Int),.int .u8 (a0.fWater.toNat:Int),v0_4] 27] M1 [.row w.heap.size 70 (Rep.size TUnit) vN (([]:List TUnit).length) [],.row w.heap.size 70 (Rep.size TUnit) d0 v0.length x0,.cells j0 [vI (((a0.fGroups % (3:UInt8)).toNat:Nat):Int),vI (((a0.fParties % (4:UInt8)).toNat:Nat):Int),vI (((a0.fLevels % (3:UInt8)).toNat:Nat):Int),d0] 41,.cells g0 [vI 0,vI 0,vI 0,vN] 41,.cells b5 [.int .u8 (a0.fGroups.toNat:Int),.int .u8 (a0.fParties.toNat:Int),.int .u8 (a0.fLevels.toNat:Int),.int .u8 (a0.fWater.toNat:Int),v0_4] 27]∧Cells M1 (bl [.row w.heap.size 70 (Rep.size TUnit) vN (([]:List TUnit).length) [],.row w.heap.size 70 (Rep.size TUnit) d0 v0.length x0,.cells j0 [vI (((a0.fGroups % (3:UInt8)).toNat:Nat):Int),vI (((a0.fParties % (4:UInt8)).toNat:Nat):Int),vI (((a0.fLevels % (3:UInt8)).toNat:Nat):Int),d0] 41,.cells g0 [vI 0,vI 0,vI 0,vN] 41,.cells b5 [.int .u8 (a0.fGroups.toNat:Int),.int .u8 (a0.fParties.toNat:Int),.int .u8 (a0.fLevels.toNat:Int),.int .u8 (a0.fWater.toNat:Int),v0_4] 27] ++ L) x0 v0) (fun ⟨M0,v0,d0,x0⟩=>(M0,v0)) (0,([]:List TUnit),vN,[]) J6 ⟨rfl,rfl,rfl,rfl,rfl,trivial⟩ ⟨d3,AN _ _,y6⟩ ?_
 rintro J8 ⟨M0,v0,d0,x0⟩ M1 p4 ⟨I1,U4,B3⟩ h
 unfold wardmoteref22_Draft_Roll_l3 at h
 try dsimp only at h
 refine Ak<|Ae<|Ac rfl<|Ac rfl<|Ab (BF (i:=M0) (j:=a1) rfl rfl)<|Aa<|AW rfl h (fun b4 h=>?_) (fun b4 h=>?_)
 refine Ao<|Ak<|AB<|Ak<|Bm 18 tb39_5 (by kernel_rfl) (by kernel_rfl) (by kernel_rfl) (fun p0 t0=>?_)
 refine Ah 0 1 p0 rfl t0 (fun _=>Ai rfl) rfl ?_
 obtain ⟨U7,d7,h⟩:=bi h
 refine Ah 1 3 p0 rfl t0 (fun _=>FV.remc (i:=M0) (j:=26) rfl rfl d7) rfl ?_
 obtain ⟨F0,g7,h⟩:=bi h
 refine Ah 2 7 p0 rfl t0 (fun _=>BT (i:=97) (j:=U7) rfl rfl g7) rfl<|Ah 3 15 p0 rfl t0 (fun _=>FV.convU8 (i:=F0) Tryz.underlying3 Tryz.underlying5 rfl) rfl<|Ah 4 31 p0 rfl t0 (fun _=>Ai rfl) rfl ?_
 obtain ⟨V7,j7,h⟩:=bi h
 refine Ah 5 63 p0 rfl t0 (fun _=>FV.quoc (i:=M0) (j:=26) rfl rfl j7) rfl ?_
 obtain ⟨W7,k7,h⟩:=bi h
 refine Ah 6 127 p0 rfl t0 (fun _=>FV.remc (i:=V7) (j:=26) rfl rfl k7) rfl ?_
 obtain ⟨u0,p7,h⟩:=bi h
 refine Ah 7 255 p0 rfl t0 (fun _=>BT (i:=97) (j:=W7) rfl rfl p7) rfl<|Ah 8 511 p0 rfl t0 (fun _=>FV.convU8 (i:=u0) Tryz.underlying3 Tryz.underlying5 rfl) rfl<|AT 12 4607 360448 p0 rfl t0 (AG rfl (I1.memA (.tl (.tl (.tl (.tl .hd)))))) rfl<|Ah 13 12799 p0 rfl t0 (fun _=>Ai rfl) rfl ?_
 obtain ⟨X7,q7,h⟩:=bi h
 refine Ah 14 29183 p0 rfl t0 (fun _=>FV.mulc (i:=9) (j:=M0) rfl rfl q7) rfl ?_
 obtain ⟨q0,M7,h⟩:=bi h
 refine RD.cq 15 61951 327680 (vI q0) p0 rfl t0 body69 rfl (e2 rfl rfl) (fun w9 hw9=>wardmoteref22_Draft_num_c n _ w9 (I1.hL0 hL hw9) a0 (I1.k0 h0_4 hw9) X7 M7) rfl ?_
 obtain ⟨s0,W3,h⟩:=bi h
 refine RD.meet (α:=Nat) (fun k1=>[(1,vI a1),(2,vP b5),(4,vP g0),(5,vP j0),(6,vI M0),(44,.agg #[.string s0,vI q0,vN,vN,vN,.bool false]),(7,vP k1)]) (fun k1 Y2=>St w Y2 [.cells k1 [.string ⟨#[]⟩,vI 0,vN,vN,vN,.bool false] 70,.row w.heap.size 70 (Rep.size TUnit) vN (([]:List TUnit).length) [],.row w.heap.size 70 (Rep.size TUnit) d0 v0.length x0,.cells j0 [vI (((a0.fGroups % (3:UInt8)).toNat:Nat):Int),vI (((a0.fParties % (4:UInt8)).toNat:Nat):Int),vI (((a0.fLevels % (3:UInt8)).toNat:Nat):Int),d0] 41,.cells g0 [vI 0,vI 0,vI 0,vN] 41,.cells b5 [.int .u8 (a0.fGroups.toNat:Int),.int .u8 (a0.fParties.toNat:Int),.int .u8 (a0.fLevels.toNat:Int),.int .u8 (a0.fWater.toNat:Int),v0_4] 27]∧Tr M1 [.row w.heap.size 70 (Rep.size TUnit) vN (([]:List TUnit).length) [],.row w.heap.size 70 (Rep.size TUnit) d0 v0.length x0,.cells j0 [vI (((a0.fGroups % (3:UInt8)).toNat:Nat):Int),vI (((a0.fParties % (4:UInt8)).toNat:Nat):Int),vI (((a0.fLevels % (3:UInt8)).toNat:Nat):Int),d0] 41,.cells g0 [vI 0,vI 0,vI 0,vN] 41,.cells b5 [.int .u8 (a0.fGroups.toNat:Int),.int .u8 (a0.fParties.toNat:Int),.int .u8 (a0.fLevels.toNat:Int),.int .u8 (a0.fWater.toNat:Int),v0_4] 27] Y2 [.cells k1 [.string ⟨#[]⟩,vI 0,vN,vN,vN,.bool false] 70,.row w.heap.size 70 (Rep.size TUnit) vN (([]:List TUnit).length) [],.row w.heap.size 70 (Rep.size TUnit) d0 v0.length x0,.cells j0 [vI (((a0.fGroups % (3:UInt8)).toNat:Nat):Int),vI (((a0.fParties % (4:UInt8)).toNat:Nat):Int),vI (((a0.fLevels % (3:UInt8)).toNat:Nat):Int),d0] 41,.cells g0 [vI 0,vI 0,vI 0,vN] 41,.cells b5 [.int .u8 (a0.fGroups.toNat:Int),.int .u8 (a0.fParties.toNat:Int),.int .u8 (a0.fLevels.toNat:Int),.int .u8 (a0.fWater.toNat:Int),v0_4] 27]) 1 262143 ?_ ?_
 rintro k1 Y2 ⟨B4,V4⟩
 try dsimp only
 refine RD.nw 18 524287 p0 rfl rfl .plain (Bq (news:=[.string s0,vI q0,vN,vN,vN,.bool false]) B4 .hd rfl rfl rfl rfl rfl rfl (onesB rfl)) (fun G9 J1 W4=>?_)
 refine Bc (doneD_ok p0 (by kernel_rfl))<|Ae<|Ab (AG rfl (J1.memA (.tl (.tl (.tl (.tl (.tl .hd)))))))<|AH 0 rfl<|Ab (AA rfl ((J1.memA (.tl (.tl (.tl .hd)))) 0 _ rfl))<|Ac rfl ?_
 obtain ⟨Y7,s7,h⟩:=bi h
 refine Ab (FV.mulc (i:=9) (j:=M0) rfl rfl s7) ?_
 obtain ⟨Z7,t7,h⟩:=bi h
 refine Ab (BT (i:=Y7) (j:=1) rfl rfl t7)<|AH 1 rfl<|AS rfl ((J1.memA .hd) 1 _ rfl) ?_
 obtain ⟨k2,P7,h⟩:=bi h
 refine Bx (fst:=[]) (cap:=[]) .plain body70 rfl (e4 rfl rfl rfl rfl) (fun w9 hw9=>wardmoteref22_Draft_list_c n _ w9 (J1.hL hL hw9) a0 (J1.km h0_4 hw9) (((a0.fGroups % (3:UInt8)).toNat:Nat):Int) Z7 q0 P7) rfl (fun H9 P0 g5 ⟨z9,hu_,Z1⟩=>?_)
 subst hu_
 obtain ⟨C4,X4⟩:=J1.agr g5
 refine AH 2 rfl<|BG .plain (Br (j:=2) (old:=[.string s0,vI q0,vN,vN,vN,.bool false]) (news:=[P0]) (new' :=[.string s0,vI q0,P0,vN,vN,.bool false]) C4 .hd rfl rfl rfl (Rep.c1 Z1) rfl rfl (o1 (AP Z1)) rfl) (fun I9 P1 s3=>?_)
 refine Aa<|Ae<|Ab (AG rfl (P1.memA (.tl (.tl (.tl (.tl (.tl .hd)))))))<|AH 1 rfl<|Ab (AA rfl ((P1.memA (.tl (.tl (.tl .hd)))) 1 _ rfl))<|Ac rfl ?_
 obtain ⟨b8,u7,h⟩:=bi h
 refine Ab (FV.mulc (i:=9) (j:=M0) rfl rfl u7) ?_
 obtain ⟨c8,v7,h⟩:=bi h
 refine Ab (BT (i:=b8) (j:=3) rfl rfl v7) ?_
 obtain ⟨p2,Q7,h⟩:=bi h
 refine Bx (fst:=[]) (cap:=[]) .plain body70 rfl (e4 rfl rfl rfl rfl) (fun w9 hw9=>wardmoteref22_Draft_list_c n _ w9 (P1.hL hL hw9) a0 (P1.km h0_4 hw9) (((a0.fParties % (4:UInt8)).toNat:Nat):Int) c8 (255:Int) Q7) rfl (fun J9 X0 j5 ⟨A9,hu_,b2⟩=>?_)
 subst hu_
 obtain ⟨D4,t3⟩:=P1.agr j5
 refine AH 3 rfl<|BG .plain (Br (j:=3) (old:=[.string s0,vI q0,P0,vN,vN,.bool false]) (news:=[X0]) (new' :=[.string s0,vI q0,P0,X0,vN,.bool false]) D4 .hd rfl rfl rfl (Rep.c1 b2) rfl rfl (o1 (AP b2)) rfl) (fun t8 g3 P2=>?_)
 refine Aa<|Ak<|Ae<|Ag rfl<|Aa<|AB ?_
 have j3:=g3.nilRow 3 (Rep.size Int)
 have Q2:=St.nilRowT g3 3 (Rep.size Int)
 have v5:=Ar (cs:=[]) (xs:=([]:List Int)) j3 L (AC _ _)
 obtain ⟨y9,K6,G5⟩:=bind_in2 h
 refine Bp (α:=Nat × (List Int) × Value × (List Value)) (fun ⟨z1,V0,J0,D1⟩=>[(1,vI a1),(2,vP b5),(4,vP g0),(5,vP j0),(6,vI M0),(7,vP k1),(8,vI ((z1:Nat):Int))]) (fun ⟨z1,V0,J0,D1⟩ j2=>St w j2 [.row w.heap.size 3 (Rep.size Int) J0 V0.length D1,.cells k1 [.string s0,vI q0,P0,X0,J0,.bool false] 70,.row w.heap.size 70 (Rep.size TUnit) vN (([]:List TUnit).length) [],.row w.heap.size 70 (Rep.size TUnit) d0 v0.length x0,.cells j0 [vI (((a0.fGroups % (3:UInt8)).toNat:Nat):Int),vI (((a0.fParties % (4:UInt8)).toNat:Nat):Int),vI (((a0.fLevels % (3:UInt8)).toNat:Nat):Int),d0] 41,.cells g0 [vI 0,vI 0,vI 0,vN] 41,.cells b5 [.int .u8 (a0.fGroups.toNat:Int),.int .u8 (a0.fParties.toNat:Int),.int .u8 (a0.fLevels.toNat:Int),.int .u8 (a0.fWater.toNat:Int),v0_4] 27]∧Tr t8 [.row w.heap.size 3 (Rep.size Int) vN (([]:List Int).length) [],.cells k1 [.string s0,vI q0,P0,X0,vN,.bool false] 70,.row w.heap.size 70 (Rep.size TUnit) vN (([]:List TUnit).length) [],.row w.heap.size 70 (Rep.size TUnit) d0 v0.length x0,.cells j0 [vI (((a0.fGroups % (3:UInt8)).toNat:Nat):Int),vI (((a0.fParties % (4:UInt8)).toNat:Nat):Int),vI (((a0.fLevels % (3:UInt8)).toNat:Nat):Int),d0] 41,.cells g0 [vI 0,vI 0,vI 0,vN] 41,.cells b5 [.int .u8 (a0.fGroups.toNat:Int),.int .u8 (a0.fParties.toNat:Int),.int .u8 (a0.fLevels.toNat:Int),.int .u8 (a0.fWater.toNat:Int),v0_4] 27] j2 [.row w.heap.size 3 (Rep.size Int) J0 V0.length D1,.cells k1 [.string s0,vI q0,P0,X0,J0,.bool false] 70,.row w.heap.size 70 (Rep.size TUnit) vN (([]:List TUnit).length) [],.row w.heap.size 70 (Rep.size TUnit) d0 v0.length x0,.cells j0 [vI (((a0.fGroups % (3:UInt8)).toNat:Nat):Int),vI (((a0.fParties % (4:UInt8)).toNat:Nat):Int),vI (((a0.fLevels % (3:UInt8)).toNat:Nat):Int),d0] 41,.cells g0 [vI 0,vI 0,vI 0,vN] 41,.cells b5 [.int .u8 (a0.fGroups.toNat:Int),.int .u8 (a0.fParties.toNat:Int),.int .u8 (a0.fLevels.toNat:Int),.int .u8 (a0.fWater.toNat:Int),v0_4] 27]∧Cells j2 (bl [.row w.heap.size 3 (Rep.size Int) J0 V0.length D1,.cells k1 [.string s0,vI q0,P0,X0,J0,.bool false] 70,.row w.heap.size 70 (Rep.size TUnit) vN (([]:List TUnit).length) [],.row w.heap.size 70 (Rep.size TUnit) d0 v0.length x0,.cells j0 [vI (((a0.fGroups % (3:UInt8)).toNat:Nat):Int),vI (((a0.fParties % (4:UInt8)).toNat:Nat):Int),vI (((a0.fLevels % (3:UInt8)).toNat:Nat):Int),d0] 41,.cells g0 [vI 0,vI 0,vI 0,vN] 41,.cells b5 [.int .u8 (a0.fGroups.toNat:Int),.int .u8 (a0.fParties.toNat:Int),.int .u8 (a0.fLevels.toNat:Int),.int .u8 (a0.fWater.toNat:Int),v0_4] 27] ++ L) D1 V0) (fun ⟨z1,V0,J0,D1⟩=>(z1,V0)) (0,([]:List Int),vN,[]) K6 ⟨rfl,rfl,rfl,rfl,rfl,rfl,rfl,trivial⟩ ⟨j3,AN _ _,v5⟩ ?_
 rintro K8 ⟨z1,V0,J0,D1⟩ j2 q4 ⟨Z0,X1,C3⟩ h
 unfold wardmoteref22_Draft_Roll_l1 at h
 try dsimp only at h
 refine Ak<|Ae<|Ac rfl<|AH 2 rfl<|Ab (AA rfl ((Z0.memA (.tl (.tl (.tl (.tl .hd))))) 2 _ rfl))<|Ab (BA (i:=z1) (j:=(a0.fLevels % (3:UInt8)).toNat) rfl rfl)<|Aa<|AW rfl h (fun c4 h=>?_) (fun c4 h=>?_)
 refine Ao<|Ak<|AB<|Bm 11 tb39_11 (by kernel_rfl) (by kernel_rfl) (by kernel_rfl) (fun y0 b1=>?_)
 refine Ah 0 1 y0 rfl b1 (fun _=>Bt 4 rfl) rfl<|AT 1 3 14336 y0 rfl b1 (AA rfl ((Z0.memA (.tl .hd)) 4 _ rfl)) rfl<|AT 2 7 16128 y0 rfl b1 (AG rfl (Z0.memA (.tl (.tl (.tl (.tl (.tl (.tl .hd)))))))) rfl<|Ah 3 15 y0 rfl b1 (fun _=>Ai rfl) rfl ?_
 obtain ⟨d8,x7,h⟩:=bi h
 refine Ah 4 31 y0 rfl b1 (fun _=>FV.mulc (i:=9) (j:=M0) rfl rfl x7) rfl ?_
 obtain ⟨g8,y7,h⟩:=bi h
 refine Ah 5 63 y0 rfl b1 (fun _=>BT (i:=d8) (j:=7) rfl rfl y7) rfl<|Ah 6 127 y0 rfl b1 (fun _=>Ai rfl) rfl ?_
 obtain ⟨j8,z7,h⟩:=bi h
 refine Ah 7 255 y0 rfl b1 (fun _=>BT (i:=g8) (j:=((z1:Nat):Int)) rfl rfl z7) rfl ?_
 obtain ⟨X3,R7,h⟩:=bi h
 refine RD.cq 8 511 15872 (vI X3) y0 rfl b1 body69 rfl (e2 rfl rfl) (fun w9 hw9=>wardmoteref22_Draft_num_c n _ w9 (Z0.hL0 hL hw9) a0 (Z0.k0 h0_4 hw9) j8 R7) rfl ?_
 obtain ⟨F1,A7,h⟩:=bi h
 refine Ah 9 1023 y0 rfl b1 (fun _=>FV.remc (i:=X3) (j:=3) rfl rfl A7) rfl<|RD.nu 10 2047 y0 rfl .plain rfl (AE (α:=Int) (xs:=([F1]:List Int)) (vs:=[vI F1]) (ds' :=[vI F1]) rfl Z0 el42 rfl (e1 rfl) (by kernel_rfl) rfl) (fun K9 P8 y2 u3=>?_)
 have x5:=Ar (cs:=[vI F1]) (xs:=(([F1]:List Int):List Int)) y2 L (Aq (cs:=[vI F1]) (ds:=[]) rfl (AC _ _))
 obtain ⟨x8,J7,h⟩:=bi h
 have z6:=Al C3 u3
 refine BD (i:=11) (readyD_ok y0 (by kernel_rfl)) (Bo (m' :=4095) (stepC_ok y0 (by kernel_rfl)) rfl rfl .plain rfl (AR (α:=Int) (ys:=([F1]:List Int)) J7 y2 (fun _ _=>(.tl .hd)) el42 rfl rfl z6 (Src.row (α:=Int) y2 .hd x5)) (fun W2 M9 ⟨g4,z2,Y4,y5⟩=>?_))
 refine Ah 12 8191 y0 rfl b1 (fun _=>Bt 4 rfl) rfl<|RD.nw 13 16383 y0 rfl rfl .plain (Br (j:=4) (old:=[.string s0,vI q0,P0,X0,J0,.bool false]) (news:=[W2]) (new' :=[.string s0,vI q0,P0,X0,W2,.bool false]) z2 (.tl (.tl .hd)) rfl rfl rfl (St.c1 (α:=Int) z2 (.tl .hd)) rfl rfl (o1 (Bz (α:=Int) z2 (.tl .hd))) rfl) (fun P9 E4 v3=>?_)
 refine Bc (doneD_ok y0 (by kernel_rfl))<|AF<|Aw<|Ac rfl<|Ab (Bu (i:=z1) (j:=1) rfl rfl (by omega))<|Ag rfl<|Aa ?_
 obtain ⟨F4,x3⟩:=AD E4 (.one (.tl .hd) (.one (.tl .hd) (.one (.tl .hd) (.one (.tl .hd) (.one (.tl .hd) (.one (.tl .hd) (.one (.tl .hd) .done)))))))
 have A6:=Al y5 (Tt v3 x3)
 have Q6:=Tt u3 (Tt Y4 (Tt v3 x3))
 exact q4 (z1 + 1,x8,W2,g4) _ _ ⟨rfl,rfl,rfl,rfl,rfl,rfl,rfl,trivial⟩ ⟨F4,(Tt X1 Q6),A6⟩ h
 refine Bd rfl ?_
 have h:=G5 _ h
 try dsimp only at h
 refine Aw<|AH 3 rfl<|Ab (AA rfl ((Z0.memA (.tl (.tl (.tl (.tl .hd))))) 3 _ rfl))<|Ab (AG rfl (Z0.memA (.tl .hd))) ?_
 have c7:=AQ (α:=Int) Z0 .hd C3 hL
 have k3:=Bf Z0 .hd
 have R2:=Bg Z0 .hd
 have V3:=Bh (α:=Int) (v:=J0) (xs:=V0) k3 L c7
 have K3:=Tt s3 (Tt t3 (Tt P2 (Tt Q2 (Tt X1 R2))))
 have B6:=Aj Z1 K3
 have M3:=Tt P2 (Tt Q2 (Tt X1 R2))
 have C6:=Aj b2 M3
 obtain ⟨F8,Z8,F7,_⟩:=BQ B6
 obtain ⟨G8,b9,G7,_⟩:=BQ C6
 obtain ⟨H8,c9,H7,_⟩:=BQ V3
 refine Az .plain rfl (AE (α:=TUnit) (xs:=([(⟨s0,q0,k2,p2,V0,false⟩:TUnit)]:List TUnit)) (vs:=[.agg #[.string s0,vI q0,P0,X0,J0,.bool false]]) (ds' :=[.string s0,vI q0,P0,X0,J0,.bool false]) rfl k3 el39 rfl (e1 rfl) (by rw [F7,G7,H7]; try kernel_rfl) rfl) (fun Q9 Q8 A2 Y1=>?_)
 have D6:=Aj Z1 (Tt K3 Y1)
 have E6:=Aj b2 (Tt M3 Y1)
 have F6:=Aj V3 Y1
 have z5:=Ar (cs:=[.string s0,vI q0,P0,X0,J0,.bool false]) (xs:=(([(⟨s0,q0,k2,p2,V0,false⟩:TUnit)]:List TUnit):List TUnit)) A2 L (Aq (cs:=[.string s0,vI q0,P0,X0,J0,.bool false]) (ds:=[]) (mk_TUnit s0 q0 k2 D6 p2 E6 V0 F6 false) (AC _ _))
 obtain ⟨y8,K7,h⟩:=bi h
 have P3:=Tt V4 (Tt W4 (Tt X4 (Tt s3 (Tt t3 (Tt P2 (Tt Q2 (Tt X1 (Tt R2 Y1))))))))
 have G6:=Al B3 P3
 refine RG.doesL .plain rfl (AR (α:=TUnit) (ys:=([(⟨s0,q0,k2,p2,V0,false⟩:TUnit)]:List TUnit)) K7 A2 (fun _ _=>(.tl (.tl (.tl .hd)))) el39 rfl rfl G6 (Src.row (α:=TUnit) A2 .hd z5)) (fun X2 R9 ⟨j4,B2,Z4,A5⟩=>?_)
 refine AH 3 rfl<|BG .plain (Br (j:=3) (old:=[vI (((a0.fGroups % (3:UInt8)).toNat:Nat):Int),vI (((a0.fParties % (4:UInt8)).toNat:Nat):Int),vI (((a0.fLevels % (3:UInt8)).toNat:Nat):Int),d0]) (news:=[X2]) (new' :=[vI (((a0.fGroups % (3:UInt8)).toNat:Nat):Int),vI (((a0.fParties % (4:UInt8)).toNat:Nat):Int),vI (((a0.fLevels % (3:UInt8)).toNat:Nat):Int),X2]) B2 (.tl (.tl (.tl (.tl .hd)))) rfl rfl rfl (St.c1 (α:=TUnit) B2 (.tl (.tl (.tl .hd)))) rfl rfl (o1 (Bz (α:=TUnit) B2 (.tl (.tl (.tl .hd))))) rfl) (fun U9 G4 y3=>?_)
 refine Aa<|AF<|Aw<|Ac rfl ?_
 obtain ⟨k8,B7,h⟩:=bi h
 refine Ab (BT (i:=M0) (j:=1) rfl rfl B7)<|Ag rfl<|Aa ?_
 obtain ⟨H4,z3⟩:=AD G4 (.one (.tl (.tl .hd)) (.one (.tl (.tl .hd)) (.one (.tl (.tl .hd)) (.one (.tl (.tl .hd)) (.one (.tl (.tl .hd)) .done)))))
 have H6:=Al A5 (Tt y3 z3)
 have R6:=Tt P3 (Tt Z4 (Tt y3 z3))
 exact p4 (k8,y8,X2,j4) _ _ ⟨rfl,rfl,rfl,rfl,rfl,trivial⟩ ⟨H4,(Tt U4 R6),H6⟩ h
 intro Z2
 refine Bv [9,17] (readyD_ok p0 (by kernel_rfl)) ⟨?_,?_,trivial⟩
 refine BI (m' :=62463) (stepC_ok p0 (by kernel_rfl)) rfl .plain rfl (AE (α:=UInt8) (xs:=([u8ofI F0,u8ofI u0]:List UInt8)) (vs:=[.int .u8 ((u8ofI F0).toNat:Int),.int .u8 ((u8ofI u0).toNat:Int)]) (ds' :=[.int .u8 ((u8ofI F0).toNat:Int),.int .u8 ((u8ofI u0).toNat:Int)]) rfl I1 el22 rfl (e2 rfl rfl) (by kernel_rfl) rfl) (fun q8 Y3 E1 K2=>?_)
 have U2:=Ar (cs:=[.int .u8 ((u8ofI F0).toNat:Int),.int .u8 ((u8ofI u0).toNat:Int)]) (xs:=(([u8ofI F0,u8ofI u0]:List UInt8):List UInt8)) E1 L (Aq (cs:=[.int .u8 ((u8ofI F0).toNat:Int)]) (ds:=[.int .u8 ((u8ofI u0).toNat:Int)]) rfl (Aq (cs:=[.int .u8 ((u8ofI u0).toNat:Int)]) (ds:=[]) rfl (AC _ _)))
 refine AT 10 63487 329728 p0 rfl t0 (FV.bytesS (xs:=([u8ofI F0,u8ofI u0]:List UInt8)) Tryz.underlying22 Tryz.underlying9 Tryz.underlying5 rfl (Src.row (α:=UInt8) E1 .hd U2)) rfl<|Ah 11 65535 p0 rfl t0 (fun _=>FV.addS W3 rfl rfl) rfl<|Ah 16 131071 p0 rfl t0 (fun _=>AV (vs:=[.string s0,vI q0]) (u:=.agg #[.string s0,vI q0,vN,vN,vN,.bool false]) (e2 rfl rfl) (fun w9=>by kernel_rfl)) rfl<|RD.nu 17 262143 p0 rfl .plain rfl (AX [.string ⟨#[]⟩,vI 0,vN,vN,vN,.bool false] E1) (fun s8 q2 x2 M2=>?_)
 obtain ⟨I4,c5⟩:=AD x2 (.one .hd (.one (.tl .hd) (.one (.tl .hd) (.one (.tl .hd) (.one (.tl .hd) (.one (.tl .hd) .done))))))
 have U6:=Tt K2 (Tt M2 c5)
 exact Z2 q2 _ _ ⟨rfl,rfl,rfl,rfl,rfl,rfl,rfl,trivial⟩ ⟨I4,U6⟩
 refine BI (m' :=193023) (stepC_ok p0 (by kernel_rfl)) rfl .plain rfl (AX [.string ⟨#[]⟩,vI 0,vN,vN,vN,.bool false] I1) (fun s8 q2 x2 M2=>?_)
 refine RD.nu 9 193535 p0 rfl .plain rfl (AE (α:=UInt8) (xs:=([u8ofI F0,u8ofI u0]:List UInt8)) (vs:=[.int .u8 ((u8ofI F0).toNat:Int),.int .u8 ((u8ofI u0).toNat:Int)]) (ds' :=[.int .u8 ((u8ofI F0).toNat:Int),.int .u8 ((u8ofI u0).toNat:Int)]) rfl x2 el22 rfl (e2 rfl rfl) (by kernel_rfl) rfl) (fun q8 Y3 E1 K2=>?_)
 have U2:=Ar (cs:=[.int .u8 ((u8ofI F0).toNat:Int),.int .u8 ((u8ofI u0).toNat:Int)]) (xs:=(([u8ofI F0,u8ofI u0]:List UInt8):List UInt8)) E1 L (Aq (cs:=[.int .u8 ((u8ofI F0).toNat:Int)]) (ds:=[.int .u8 ((u8ofI u0).toNat:Int)]) rfl (Aq (cs:=[.int .u8 ((u8ofI u0).toNat:Int)]) (ds:=[]) rfl (AC _ _)))
 refine AT 10 194559 329728 p0 rfl t0 (FV.bytesS (xs:=([u8ofI F0,u8ofI u0]:List UInt8)) Tryz.underlying22 Tryz.underlying9 Tryz.underlying5 rfl (Src.row (α:=UInt8) E1 .hd U2)) rfl<|Ah 11 196607 p0 rfl t0 (fun _=>FV.addS W3 rfl rfl) rfl<|Ah 16 262143 p0 rfl t0 (fun _=>AV (vs:=[.string s0,vI q0]) (u:=.agg #[.string s0,vI q0,vN,vN,vN,.bool false]) (e2 rfl rfl) (fun w9=>by kernel_rfl)) rfl ?_
 obtain ⟨J4,d5⟩:=AD E1 (.one (.tl .hd) (.one (.tl .hd) (.one (.tl .hd) (.one (.tl .hd) (.one (.tl .hd) (.one (.tl .hd) .done))))))
 have V6:=Tt M2 (Tt K2 d5)
 exact Z2 q2 _ _ ⟨rfl,rfl,rfl,rfl,rfl,rfl,rfl,trivial⟩ ⟨J4,V6⟩
 refine Bd rfl ?_
 have h:=F5 _ h
 try dsimp only at h
 refine Ak<|Ae<|Ag rfl<|Aa<|AB ?_
 obtain ⟨v9,I6,E5⟩:=bind_in2 h
 refine Bp (α:=Nat × (List TUnit) × Value × (List Value)) (fun ⟨y1,K0,c0,Q0⟩=>[(2,vP b5),(4,vP g0),(5,vP j0),(9,vI ((y1:Nat):Int))]) (fun ⟨y1,K0,c0,Q0⟩ Q1=>St w Q1 [.row w.heap.size 70 (Rep.size TUnit) vN (([]:List TUnit).length) [],.row w.heap.size 70 (Rep.size TUnit) c0 K0.length Q0,.cells j0 [vI (((a0.fGroups % (3:UInt8)).toNat:Nat):Int),vI (((a0.fParties % (4:UInt8)).toNat:Nat):Int),vI (((a0.fLevels % (3:UInt8)).toNat:Nat):Int),c0] 41,.cells g0 [vI 0,vI 0,vI 0,vN] 41,.cells b5 [.int .u8 (a0.fGroups.toNat:Int),.int .u8 (a0.fParties.toNat:Int),.int .u8 (a0.fLevels.toNat:Int),.int .u8 (a0.fWater.toNat:Int),v0_4] 27]∧Tr M1 [.row w.heap.size 70 (Rep.size TUnit) vN (([]:List TUnit).length) [],.row w.heap.size 70 (Rep.size TUnit) d0 v0.length x0,.cells j0 [vI (((a0.fGroups % (3:UInt8)).toNat:Nat):Int),vI (((a0.fParties % (4:UInt8)).toNat:Nat):Int),vI (((a0.fLevels % (3:UInt8)).toNat:Nat):Int),d0] 41,.cells g0 [vI 0,vI 0,vI 0,vN] 41,.cells b5 [.int .u8 (a0.fGroups.toNat:Int),.int .u8 (a0.fParties.toNat:Int),.int .u8 (a0.fLevels.toNat:Int),.int .u8 (a0.fWater.toNat:Int),v0_4] 27] Q1 [.row w.heap.size 70 (Rep.size TUnit) vN (([]:List TUnit).length) [],.row w.heap.size 70 (Rep.size TUnit) c0 K0.length Q0,.cells j0 [vI (((a0.fGroups % (3:UInt8)).toNat:Nat):Int),vI (((a0.fParties % (4:UInt8)).toNat:Nat):Int),vI (((a0.fLevels % (3:UInt8)).toNat:Nat):Int),c0] 41,.cells g0 [vI 0,vI 0,vI 0,vN] 41,.cells b5 [.int .u8 (a0.fGroups.toNat:Int),.int .u8 (a0.fParties.toNat:Int),.int .u8 (a0.fLevels.toNat:Int),.int .u8 (a0.fWater.toNat:Int),v0_4] 27]∧Cells Q1 (bl [.row w.heap.size 70 (Rep.size TUnit) vN (([]:List TUnit).length) [],.row w.heap.size 70 (Rep.size TUnit) c0 K0.length Q0,.cells j0 [vI (((a0.fGroups % (3:UInt8)).toNat:Nat):Int),vI (((a0.fParties % (4:UInt8)).toNat:Nat):Int),vI (((a0.fLevels % (3:UInt8)).toNat:Nat):Int),c0] 41,.cells g0 [vI 0,vI 0,vI 0,vN] 41,.cells b5 [.int .u8 (a0.fGroups.toNat:Int),.int .u8 (a0.fParties.toNat:Int),.int .u8 (a0.fLevels.toNat:Int),.int .u8 (a0.fWater.toNat:Int),v0_4] 27] ++ L) Q0 K0) (fun ⟨y1,K0,c0,Q0⟩=>(y1,K0)) (0,v0,d0,x0) I6 ⟨rfl,rfl,rfl,rfl,trivial⟩ ⟨I1,AN _ _,B3⟩ ?_
 rintro I8 ⟨y1,K0,c0,Q0⟩ Q1 k4 ⟨Y0,K4,A3⟩ h
 unfold wardmoteref22_Draft_Roll_l2 at h
 try dsimp only at h
 refine Ak<|Ae<|Ac rfl<|AH 3 rfl<|Ab (AA rfl ((Y0.memA (.tl (.tl (.tl (.tl .hd))))) 3 _ rfl))<|Ab (FV.rem8 (a:=a0.fWater) (b:=(2:UInt8)) rfl rfl (by decide)) ?_
 have q9:=(a0.fWater % (2:UInt8)).toNat_lt
 refine Ab (FV.convN (i:=(a0.fWater % (2:UInt8)).toNat) Tryz.underlying5 Tryz.underlying3 rfl (by omega))<|Ab (BA (i:=y1) (j:=(a0.fWater % (2:UInt8)).toNat) rfl rfl)<|Aa<|AW rfl h (fun Z3 h=>?_) (fun Z3 h=>?_)
 refine Ao<|Ak<|AB<|Bm 13 tb39_16 (by kernel_rfl) (by kernel_rfl) (by kernel_rfl) (fun b0 x1=>?_)
 refine Ah 0 1 b0 rfl x1 (fun _=>Bt 3 rfl) rfl<|AT 1 3 57344 b0 rfl x1 (AA rfl ((Y0.memA (.tl (.tl .hd))) 3 _ rfl)) rfl<|Ah 2 7 b0 rfl x1 (fun _=>Bt 0 rfl) rfl<|AT 3 15 63504 b0 rfl x1 (AA rfl ((Y0.memA (.tl (.tl .hd))) 0 _ rfl)) rfl<|Ah 5 47 b0 rfl x1 (fun _=>Bt 1 rfl) rfl<|AT 6 111 63616 b0 rfl x1 (AA rfl ((Y0.memA (.tl (.tl .hd))) 1 _ rfl)) rfl<|Ah 8 367 b0 rfl x1 (fun _=>Bt 2 rfl) rfl<|AT 9 879 64512 b0 rfl x1 (AA rfl ((Y0.memA (.tl (.tl .hd))) 2 _ rfl)) rfl ?_
 obtain ⟨z0,t1,h⟩:=bi h
 obtain ⟨A0,u1,h⟩:=bi h
 obtain ⟨B0,v1,h⟩:=bi h
 refine RD.meet (α:=Value × (List Value) × Value × (List Value) × Value × (List Value)) (fun ⟨G0,A1,H0,B1,I0,C1⟩=>[(2,vP b5),(4,vP g0),(5,vP j0),(9,vI ((y1:Nat):Int)),(97,c0),(100,I0),(103,H0),(106,G0)]) (fun ⟨G0,A1,H0,B1,I0,C1⟩ K1=>St w K1 [.row w.heap.size 3 (Rep.size Int) G0 B0.length A1,.row w.heap.size 3 (Rep.size Int) H0 A0.length B1,.row w.heap.size 3 (Rep.size Int) I0 z0.length C1,.row w.heap.size 70 (Rep.size TUnit) vN (([]:List TUnit).length) [],.row w.heap.size 70 (Rep.size TUnit) c0 K0.length Q0,.cells j0 [vI (((a0.fGroups % (3:UInt8)).toNat:Nat):Int),vI (((a0.fParties % (4:UInt8)).toNat:Nat):Int),vI (((a0.fLevels % (3:UInt8)).toNat:Nat):Int),c0] 41,.cells g0 [vI 0,vI 0,vI 0,vN] 41,.cells b5 [.int .u8 (a0.fGroups.toNat:Int),.int .u8 (a0.fParties.toNat:Int),.int .u8 (a0.fLevels.toNat:Int),.int .u8 (a0.fWater.toNat:Int),v0_4] 27]∧Tr Q1 [.row w.heap.size 70 (Rep.size TUnit) vN (([]:List TUnit).length) [],.row w.heap.size 70 (Rep.size TUnit) c0 K0.length Q0,.cells j0 [vI (((a0.fGroups % (3:UInt8)).toNat:Nat):Int),vI (((a0.fParties % (4:UInt8)).toNat:Nat):Int),vI (((a0.fLevels % (3:UInt8)).toNat:Nat):Int),c0] 41,.cells g0 [vI 0,vI 0,vI 0,vN] 41,.cells b5 [.int .u8 (a0.fGroups.toNat:Int),.int .u8 (a0.fParties.toNat:Int),.int .u8 (a0.fLevels.toNat:Int),.int .u8 (a0.fWater.toNat:Int),v0_4] 27] K1 [.row w.heap.size 3 (Rep.size Int) G0 B0.length A1,.row w.heap.size 3 (Rep.size Int) H0 A0.length B1,.row w.heap.size 3 (Rep.size Int) I0 z0.length C1,.row w.heap.size 70 (Rep.size TUnit) vN (([]:List TUnit).length) [],.row w.heap.size 70 (Rep.size TUnit) c0 K0.length Q0,.cells j0 [vI (((a0.fGroups % (3:UInt8)).toNat:Nat):Int),vI (((a0.fParties % (4:UInt8)).toNat:Nat):Int),vI (((a0.fLevels % (3:UInt8)).toNat:Nat):Int),c0] 41,.cells g0 [vI 0,vI 0,vI 0,vN] 41,.cells b5 [.int .u8 (a0.fGroups.toNat:Int),.int .u8 (a0.fParties.toNat:Int),.int .u8 (a0.fLevels.toNat:Int),.int .u8 (a0.fWater.toNat:Int),v0_4] 27]∧Cells K1 (bl [.row w.heap.size 3 (Rep.size Int) G0 B0.length A1,.row w.heap.size 3 (Rep.size Int) H0 A0.length B1,.row w.heap.size 3 (Rep.size Int) I0 z0.length C1,.row w.heap.size 70 (Rep.size TUnit) vN (([]:List TUnit).length) [],.row w.heap.size 70 (Rep.size TUnit) c0 K0.length Q0,.cells j0 [vI (((a0.fGroups % (3:UInt8)).toNat:Nat):Int),vI (((a0.fParties % (4:UInt8)).toNat:Nat):Int),vI (((a0.fLevels % (3:UInt8)).toNat:Nat):Int),c0] 41,.cells g0 [vI 0,vI 0,vI 0,vN] 41,.cells b5 [.int .u8 (a0.fGroups.toNat:Int),.int .u8 (a0.fParties.toNat:Int),.int .u8 (a0.fLevels.toNat:Int),.int .u8 (a0.fWater.toNat:Int),v0_4] 27] ++ L) A1 (B0:List Int)∧Cells K1 (bl [.row w.heap.size 3 (Rep.size Int) G0 B0.length A1,.row w.heap.size 3 (Rep.size Int) H0 A0.length B1,.row w.heap.size 3 (Rep.size Int) I0 z0.length C1,.row w.heap.size 70 (Rep.size TUnit) vN (([]:List TUnit).length) [],.row w.heap.size 70 (Rep.size TUnit) c0 K0.length Q0,.cells j0 [vI (((a0.fGroups % (3:UInt8)).toNat:Nat):Int),vI (((a0.fParties % (4:UInt8)).toNat:Nat):Int),vI (((a0.fLevels % (3:UInt8)).toNat:Nat):Int),c0] 41,.cells g0 [vI 0,vI 0,vI 0,vN] 41,.cells b5 [.int .u8 (a0.fGroups.toNat:Int),.int .u8 (a0.fParties.toNat:Int),.int .u8 (a0.fLevels.toNat:Int),.int .u8 (a0.fWater.toNat:Int),v0_4] 27] ++ L) B1 (A0:List Int)∧Cells K1 (bl [.row w.heap.size 3 (Rep.size Int) G0 B0.length A1,.row w.heap.size 3 (Rep.size Int) H0 A0.length B1,.row w.heap.size 3 (Rep.size Int) I0 z0.length C1,.row w.heap.size 70 (Rep.size TUnit) vN (([]:List TUnit).length) [],.row w.heap.size 70 (Rep.size TUnit) c0 K0.length Q0,.cells j0 [vI (((a0.fGroups % (3:UInt8)).toNat:Nat):Int),vI (((a0.fParties % (4:UInt8)).toNat:Nat):Int),vI (((a0.fLevels % (3:UInt8)).toNat:Nat):Int),c0] 41,.cells g0 [vI 0,vI 0,vI 0,vN] 41,.cells b5 [.int .u8 (a0.fGroups.toNat:Int),.int .u8 (a0.fParties.toNat:Int),.int .u8 (a0.fLevels.toNat:Int),.int .u8 (a0.fWater.toNat:Int),v0_4] 27] ++ L) C1 (z0:List Int)) 5 2047 ?_ ?_
 rintro ⟨G0,A1,H0,B1,I0,C1⟩ K1 ⟨H1,M4,k5,p5,q5⟩
 try dsimp only
 obtain ⟨z8,R8,B5⟩:=St.rowV (α:=Int) H1 (.tl (.tl .hd))
 obtain ⟨A8,U8,C5⟩:=St.rowV (α:=Int) H1 (.tl .hd)
 obtain ⟨B8,V8,D5⟩:=St.rowV (α:=Int) H1 .hd
 refine Ah 11 4095 b0 rfl x1 (fun _=>AV (vs:=[.string ⟨#[115,101,97]⟩,.bool true,I0,H0,G0]) (u:=.agg #[.string ⟨#[115,101,97]⟩,vI 0,I0,H0,G0,.bool true]) (e5 rfl rfl rfl rfl rfl) (fun w9=>by rw [B5,C5,D5]; try kernel_rfl)) rfl ?_
 have W6:=AQ (α:=Int) H1 (.tl (.tl .hd)) q5 hL
 have R1:=Bf H1 (.tl (.tl .hd))
 have C2:=Bg H1 (.tl (.tl .hd))
 have Q3:=Bh (α:=Int) (v:=I0) (xs:=z0) R1 L W6
 have H5:=Al p5 C2
 have X6:=AQ (α:=Int) R1 (.tl .hd) H5 hL
 have U1:=Bf R1 (.tl .hd)
 have D2:=Bg R1 (.tl .hd)
 have R3:=Bh (α:=Int) (v:=H0) (xs:=A0) U1 L X6
 have I5:=Al k5 (Tt C2 D2)
 have Y6:=AQ (α:=Int) U1 .hd I5 hL
 have b3:=Bf U1 .hd
 have W1:=Bg U1 .hd
 have U3:=Bh (α:=Int) (v:=G0) (xs:=B0) b3 L Y6
 have J5:=Aj Q3 (Tt D2 W1)
 have K5:=Aj R3 W1
 obtain ⟨C8,W8,C7,_⟩:=BQ J5
 obtain ⟨D8,X8,D7,_⟩:=BQ K5
 obtain ⟨E8,Y8,E7,_⟩:=BQ U3
 refine RD.nu 12 8191 b0 rfl .plain rfl (AE (α:=TUnit) (xs:=([(⟨⟨#[115,101,97]⟩,(0:Int),z0,A0,B0,true⟩:TUnit)]:List TUnit)) (vs:=[.agg #[.string ⟨#[115,101,97]⟩,vI 0,I0,H0,G0,.bool true]]) (ds' :=[.string ⟨#[115,101,97]⟩,vI 0,I0,H0,G0,.bool true]) rfl b3 el39 rfl (e1 rfl) (by rw [C7,D7,E7]; try kernel_rfl) rfl) (fun B9 M8 s2 E2=>?_)
 have D3:=Tt D2 (Tt W1 E2)
 have M5:=Aj Q3 D3
 have P5:=Aj R3 (Tt W1 E2)
 have Q5:=Aj U3 E2
 have s5:=Ar (cs:=[.string ⟨#[115,101,97]⟩,vI 0,I0,H0,G0,.bool true]) (xs:=(([(⟨⟨#[115,101,97]⟩,(0:Int),z0,A0,B0,true⟩:TUnit)]:List TUnit):List TUnit)) s2 L (Aq (cs:=[.string ⟨#[115,101,97]⟩,vI 0,I0,H0,G0,.bool true]) (ds:=[]) (mk_TUnit ⟨#[115,101,97]⟩ (0:Int) z0 M5 A0 P5 B0 Q5 true) (AC _ _))
 obtain ⟨v8,I7,h⟩:=bi h
 have E3:=Tt M4 (Tt C2 D3)
 have R5:=Al A3 E3
 refine BD (i:=13) (readyD_ok b0 (by kernel_rfl)) (Bo (m' :=16383) (stepC_ok b0 (by kernel_rfl)) rfl rfl .plain rfl (AR (α:=TUnit) (ys:=([(⟨⟨#[115,101,97]⟩,(0:Int),z0,A0,B0,true⟩:TUnit)]:List TUnit)) I7 s2 (fun _ _=>(.tl (.tl .hd))) el39 rfl rfl R5 (Src.row (α:=TUnit) s2 .hd s5)) (fun V2 C9 ⟨d4,t2,P4,t5⟩=>?_))
 refine Ah 14 32767 b0 rfl x1 (fun _=>Bt 3 rfl) rfl<|RD.nw 15 65535 b0 rfl rfl .plain (Br (j:=3) (old:=[vI (((a0.fGroups % (3:UInt8)).toNat:Nat):Int),vI (((a0.fParties % (4:UInt8)).toNat:Nat):Int),vI (((a0.fLevels % (3:UInt8)).toNat:Nat):Int),c0]) (news:=[V2]) (new' :=[vI (((a0.fGroups % (3:UInt8)).toNat:Nat):Int),vI (((a0.fParties % (4:UInt8)).toNat:Nat):Int),vI (((a0.fLevels % (3:UInt8)).toNat:Nat):Int),V2]) t2 (.tl (.tl (.tl .hd))) rfl rfl rfl (St.c1 (α:=TUnit) t2 (.tl (.tl .hd))) rfl rfl (o1 (Bz (α:=TUnit) t2 (.tl (.tl .hd)))) rfl) (fun D9 s4 p3=>?_)
 refine Bc (doneD_ok b0 (by kernel_rfl))<|AF<|Aw<|Ac rfl<|Ab (Bu (i:=y1) (j:=1) rfl rfl (by omega))<|Ag rfl<|Aa ?_
 obtain ⟨t4,q3⟩:=AD s4 (.one (.tl .hd) (.one (.tl .hd) (.one (.tl .hd) (.one (.tl .hd) (.one (.tl .hd) .done)))))
 have U5:=Al t5 (Tt p3 q3)
 have M6:=Tt E3 (Tt P4 (Tt p3 q3))
 exact k4 (y1 + 1,v8,V2,d4) _ _ ⟨rfl,rfl,rfl,rfl,trivial⟩ ⟨t4,(Tt K4 M6),U5⟩ h
 intro G1
 refine Bv [4,7,10] (readyD_ok b0 (by kernel_rfl)) ⟨?_,?_,?_,trivial⟩
 refine BI (m' :=895) (stepC_ok b0 (by kernel_rfl)) rfl .plain rfl (Does.mk (α:=Int) t1 Y0 el42 rfl) (fun c2 d1 C0 W0=>?_)
 have p1:=Ar (cs:=(List.replicate (((a0.fGroups % (3:UInt8)).toNat:Nat):Int).toNat [vI 0]).flatten) (xs:=z0) C0 L (Cells.mk t1 rfl)
 refine Bv [7,10] (readyD_ok b0 (by kernel_rfl)) ⟨?_,?_,trivial⟩
 refine BI (m' :=1023) (stepC_ok b0 (by kernel_rfl)) rfl .plain rfl (Does.mk (α:=Int) u1 C0 el42 rfl) (fun d2 g1 D0 R0=>?_)
 have q1:=Ar (cs:=(List.replicate (((a0.fParties % (4:UInt8)).toNat:Nat):Int).toNat [vI 0]).flatten) (xs:=A0) D0 L (Cells.mk u1 rfl)
 refine RD.nu 10 2047 b0 rfl .plain rfl (Does.mk (α:=Int) v1 D0 el42 rfl) (fun g2 j1 E0 U0=>?_)
 have s1:=Ar (cs:=(List.replicate (((a0.fLevels % (3:UInt8)).toNat:Nat):Int).toNat [vI 0]).flatten) (xs:=B0) E0 L (Cells.mk v1 rfl)
 have V5:=Al q1 U0
 have W5:=Al p1 (Tt R0 U0)
 have P6:=Tt W0 (Tt R0 U0)
 exact G1 ((.slice (some ⟨j1,0,none⟩) (((a0.fLevels % (3:UInt8)).toNat:Nat):Int).toNat (((a0.fLevels % (3:UInt8)).toNat:Nat):Int).toNat),(List.replicate (((a0.fLevels % (3:UInt8)).toNat:Nat):Int).toNat [vI 0]).flatten,(.slice (some ⟨g1,0,none⟩) (((a0.fParties % (4:UInt8)).toNat:Nat):Int).toNat (((a0.fParties % (4:UInt8)).toNat:Nat):Int).toNat),(List.replicate (((a0.fParties % (4:UInt8)).toNat:Nat):Int).toNat [vI 0]).flatten,(.slice (some ⟨d1,0,none⟩) (((a0.fGroups % (3:UInt8)).toNat:Nat):Int).toNat (((a0.fGroups % (3:UInt8)).toNat:Nat):Int).toNat),(List.replicate (((a0.fGroups % (3:UInt8)).toNat:Nat):Int).toNat [vI 0]).flatten) _ _ ⟨rfl,rfl,rfl,rfl,rfl,rfl,rfl,rfl,trivial⟩ ⟨E0,P6,s1,V5,W5⟩
 refine BI (m' :=1919) (stepC_ok b0 (by kernel_rfl)) rfl .plain rfl (Does.mk (α:=Int) v1 C0 el42 rfl) (fun g2 j1 E0 U0=>?_)
 have s1:=Ar (cs:=(List.replicate (((a0.fLevels % (3:UInt8)).toNat:Nat):Int).toNat [vI 0]).flatten) (xs:=B0) E0 L (Cells.mk v1 rfl)
 refine RD.nu 7 2047 b0 rfl .plain rfl (Does.mk (α:=Int) u1 E0 el42 rfl) (fun d2 g1 D0 R0=>?_)
 have q1:=Ar (cs:=(List.replicate (((a0.fParties % (4:UInt8)).toNat:Nat):Int).toNat [vI 0]).flatten) (xs:=A0) D0 L (Cells.mk u1 rfl)
 obtain ⟨u4,F2⟩:=AD D0 (.one (.tl .hd) (.one .hd (.one .hd (.one .hd (.one .hd (.one .hd (.one .hd (.one .hd .done))))))))
 have X5:=Al s1 (Tt R0 F2)
 have Y5:=Al q1 F2
 have F3:=Tt U0 (Tt R0 F2)
 have Z5:=Al p1 F3
 exact G1 ((.slice (some ⟨j1,0,none⟩) (((a0.fLevels % (3:UInt8)).toNat:Nat):Int).toNat (((a0.fLevels % (3:UInt8)).toNat:Nat):Int).toNat),(List.replicate (((a0.fLevels % (3:UInt8)).toNat:Nat):Int).toNat [vI 0]).flatten,(.slice (some ⟨g1,0,none⟩) (((a0.fParties % (4:UInt8)).toNat:Nat):Int).toNat (((a0.fParties % (4:UInt8)).toNat:Nat):Int).toNat),(List.replicate (((a0.fParties % (4:UInt8)).toNat:Nat):Int).toNat [vI 0]).flatten,(.slice (some ⟨d1,0,none⟩) (((a0.fGroups % (3:UInt8)).toNat:Nat):Int).toNat (((a0.fGroups % (3:UInt8)).toNat:Nat):Int).toNat),(List.replicate (((a0.fGroups % (3:UInt8)).toNat:Nat):Int).toNat [vI 0]).flatten) _ _ ⟨rfl,rfl,rfl,rfl,rfl,rfl,rfl,rfl,trivial⟩ ⟨u4,(Tt W0 F3),X5,Y5,Z5⟩
 refine BI (m' :=1007) (stepC_ok b0 (by kernel_rfl)) rfl .plain rfl (Does.mk (α:=Int) u1 Y0 el42 rfl) (fun d2 g1 D0 R0=>?_)
 have q1:=Ar (cs:=(List.replicate (((a0.fParties % (4:UInt8)).toNat:Nat):Int).toNat [vI 0]).flatten) (xs:=A0) D0 L (Cells.mk u1 rfl)
 refine Bv [4,10] (readyD_ok b0 (by kernel_rfl)) ⟨?_,?_,trivial⟩
 refine BI (m' :=1023) (stepC_ok b0 (by kernel_rfl)) rfl .plain rfl (Does.mk (α:=Int) t1 D0 el42 rfl) (fun c2 d1 C0 W0=>?_)
 have p1:=Ar (cs:=(List.replicate (((a0.fGroups % (3:UInt8)).toNat:Nat):Int).toNat [vI 0]).flatten) (xs:=z0) C0 L (Cells.mk t1 rfl)
 refine RD.nu 10 2047 b0 rfl .plain rfl (Does.mk (α:=Int) v1 C0 el42 rfl) (fun g2 j1 E0 U0=>?_)
 have s1:=Ar (cs:=(List.replicate (((a0.fLevels % (3:UInt8)).toNat:Nat):Int).toNat [vI 0]).flatten) (xs:=B0) E0 L (Cells.mk v1 rfl)
 obtain ⟨v4,G2⟩:=AD E0 (.one .hd (.one (.tl .hd) (.one .hd (.one .hd (.one .hd (.one .hd (.one .hd (.one .hd .done))))))))
 have b6:=Al s1 G2
 have G3:=Tt W0 (Tt U0 G2)
 have c6:=Al q1 G3
 have d6:=Al p1 (Tt U0 G2)
 exact G1 ((.slice (some ⟨j1,0,none⟩) (((a0.fLevels % (3:UInt8)).toNat:Nat):Int).toNat (((a0.fLevels % (3:UInt8)).toNat:Nat):Int).toNat),(List.replicate (((a0.fLevels % (3:UInt8)).toNat:Nat):Int).toNat [vI 0]).flatten,(.slice (some ⟨g1,0,none⟩) (((a0.fParties % (4:UInt8)).toNat:Nat):Int).toNat (((a0.fParties % (4:UInt8)).toNat:Nat):Int).toNat),(List.replicate (((a0.fParties % (4:UInt8)).toNat:Nat):Int).toNat [vI 0]).flatten,(.slice (some ⟨d1,0,none⟩) (((a0.fGroups % (3:UInt8)).toNat:Nat):Int).toNat (((a0.fGroups % (3:UInt8)).toNat:Nat):Int).toNat),(List.replicate (((a0.fGroups % (3:UInt8)).toNat:Nat):Int).toNat [vI 0]).flatten) _ _ ⟨rfl,rfl,rfl,rfl,rfl,rfl,rfl,rfl,trivial⟩ ⟨v4,(Tt R0 G3),b6,c6,d6⟩
 refine BI (m' :=2031) (stepC_ok b0 (by kernel_rfl)) rfl .plain rfl (Does.mk (α:=Int) v1 D0 el42 rfl) (fun g2 j1 E0 U0=>?_)
 have s1:=Ar (cs:=(List.replicate (((a0.fLevels % (3:UInt8)).toNat:Nat):Int).toNat [vI 0]).flatten) (xs:=B0) E0 L (Cells.mk v1 rfl)
 refine RD.nu 4 2047 b0 rfl .plain rfl (Does.mk (α:=Int) t1 E0 el42 rfl) (fun c2 d1 C0 W0=>?_)
 have p1:=Ar (cs:=(List.replicate (((a0.fGroups % (3:UInt8)).toNat:Nat):Int).toNat [vI 0]).flatten) (xs:=z0) C0 L (Cells.mk t1 rfl)
 obtain ⟨x4,H2⟩:=AD C0 (.one (.tl .hd) (.one (.tl .hd) (.one .hd (.one .hd (.one .hd (.one .hd (.one .hd (.one .hd .done))))))))
 have g6:=Al s1 (Tt W0 H2)
 have H3:=Tt U0 (Tt W0 H2)
 have j6:=Al q1 H3
 have k6:=Al p1 H2
 exact G1 ((.slice (some ⟨j1,0,none⟩) (((a0.fLevels % (3:UInt8)).toNat:Nat):Int).toNat (((a0.fLevels % (3:UInt8)).toNat:Nat):Int).toNat),(List.replicate (((a0.fLevels % (3:UInt8)).toNat:Nat):Int).toNat [vI 0]).flatten,(.slice (some ⟨g1,0,none⟩) (((a0.fParties % (4:UInt8)).toNat:Nat):Int).toNat (((a0.fParties % (4:UInt8)).toNat:Nat):Int).toNat),(List.replicate (((a0.fParties % (4:UInt8)).toNat:Nat):Int).toNat [vI 0]).flatten,(.slice (some ⟨d1,0,none⟩) (((a0.fGroups % (3:UInt8)).toNat:Nat):Int).toNat (((a0.fGroups % (3:UInt8)).toNat:Nat):Int).toNat),(List.replicate (((a0.fGroups % (3:UInt8)).toNat:Nat):Int).toNat [vI 0]).flatten) _ _ ⟨rfl,rfl,rfl,rfl,rfl,rfl,rfl,rfl,trivial⟩ ⟨x4,(Tt R0 H3),g6,j6,k6⟩
 refine BI (m' :=1903) (stepC_ok b0 (by kernel_rfl)) rfl .plain rfl (Does.mk (α:=Int) v1 Y0 el42 rfl) (fun g2 j1 E0 U0=>?_)
 have s1:=Ar (cs:=(List.replicate (((a0.fLevels % (3:UInt8)).toNat:Nat):Int).toNat [vI 0]).flatten) (xs:=B0) E0 L (Cells.mk v1 rfl)
 refine Bv [4,7] (readyD_ok b0 (by kernel_rfl)) ⟨?_,?_,trivial⟩
 refine BI (m' :=1919) (stepC_ok b0 (by kernel_rfl)) rfl .plain rfl (Does.mk (α:=Int) t1 E0 el42 rfl) (fun c2 d1 C0 W0=>?_)
 have p1:=Ar (cs:=(List.replicate (((a0.fGroups % (3:UInt8)).toNat:Nat):Int).toNat [vI 0]).flatten) (xs:=z0) C0 L (Cells.mk t1 rfl)
 refine RD.nu 7 2047 b0 rfl .plain rfl (Does.mk (α:=Int) u1 C0 el42 rfl) (fun d2 g1 D0 R0=>?_)
 have q1:=Ar (cs:=(List.replicate (((a0.fParties % (4:UInt8)).toNat:Nat):Int).toNat [vI 0]).flatten) (xs:=A0) D0 L (Cells.mk u1 rfl)
 obtain ⟨y4,I2⟩:=AD D0 (.one (.tl (.tl .hd)) (.one .hd (.one .hd (.one .hd (.one .hd (.one .hd (.one .hd (.one .hd .done))))))))
 have I3:=Tt W0 (Tt R0 I2)
 have p6:=Al s1 I3
 have q6:=Al q1 I2
 have s6:=Al p1 (Tt R0 I2)
 exact G1 ((.slice (some ⟨j1,0,none⟩) (((a0.fLevels % (3:UInt8)).toNat:Nat):Int).toNat (((a0.fLevels % (3:UInt8)).toNat:Nat):Int).toNat),(List.replicate (((a0.fLevels % (3:UInt8)).toNat:Nat):Int).toNat [vI 0]).flatten,(.slice (some ⟨g1,0,none⟩) (((a0.fParties % (4:UInt8)).toNat:Nat):Int).toNat (((a0.fParties % (4:UInt8)).toNat:Nat):Int).toNat),(List.replicate (((a0.fParties % (4:UInt8)).toNat:Nat):Int).toNat [vI 0]).flatten,(.slice (some ⟨d1,0,none⟩) (((a0.fGroups % (3:UInt8)).toNat:Nat):Int).toNat (((a0.fGroups % (3:UInt8)).toNat:Nat):Int).toNat),(List.replicate (((a0.fGroups % (3:UInt8)).toNat:Nat):Int).toNat [vI 0]).flatten) _ _ ⟨rfl,rfl,rfl,rfl,rfl,rfl,rfl,rfl,trivial⟩ ⟨y4,(Tt U0 I3),p6,q6,s6⟩
 refine BI (m' :=2031) (stepC_ok b0 (by kernel_rfl)) rfl .plain rfl (Does.mk (α:=Int) u1 E0 el42 rfl) (fun d2 g1 D0 R0=>?_)
 have q1:=Ar (cs:=(List.replicate (((a0.fParties % (4:UInt8)).toNat:Nat):Int).toNat [vI 0]).flatten) (xs:=A0) D0 L (Cells.mk u1 rfl)
 refine RD.nu 4 2047 b0 rfl .plain rfl (Does.mk (α:=Int) t1 D0 el42 rfl) (fun c2 d1 C0 W0=>?_)
 have p1:=Ar (cs:=(List.replicate (((a0.fGroups % (3:UInt8)).toNat:Nat):Int).toNat [vI 0]).flatten) (xs:=z0) C0 L (Cells.mk t1 rfl)
 obtain ⟨z4,J2⟩:=AD C0 (.one (.tl (.tl .hd)) (.one (.tl .hd) (.one .hd (.one .hd (.one .hd (.one .hd (.one .hd (.one .hd .done))))))))
 have J3:=Tt R0 (Tt W0 J2)
 have t6:=Al s1 J3
 have u6:=Al q1 (Tt W0 J2)
 have v6:=Al p1 J2
 exact G1 ((.slice (some ⟨j1,0,none⟩) (((a0.fLevels % (3:UInt8)).toNat:Nat):Int).toNat (((a0.fLevels % (3:UInt8)).toNat:Nat):Int).toNat),(List.replicate (((a0.fLevels % (3:UInt8)).toNat:Nat):Int).toNat [vI 0]).flatten,(.slice (some ⟨g1,0,none⟩) (((a0.fParties % (4:UInt8)).toNat:Nat):Int).toNat (((a0.fParties % (4:UInt8)).toNat:Nat):Int).toNat),(List.replicate (((a0.fParties % (4:UInt8)).toNat:Nat):Int).toNat [vI 0]).flatten,(.slice (some ⟨d1,0,none⟩) (((a0.fGroups % (3:UInt8)).toNat:Nat):Int).toNat (((a0.fGroups % (3:UInt8)).toNat:Nat):Int).toNat),(List.replicate (((a0.fGroups % (3:UInt8)).toNat:Nat):Int).toNat [vI 0]).flatten) _ _ ⟨rfl,rfl,rfl,rfl,rfl,rfl,rfl,rfl,trivial⟩ ⟨z4,(Tt U0 J3),t6,u6,v6⟩
 refine Bd rfl ?_
 have h:=E5 _ h
 try dsimp only at h
 refine Ae<|Ab (AG rfl (Y0.memA (.tl (.tl .hd))))<|Bk [vI (((a0.fGroups % (3:UInt8)).toNat:Nat):Int),vI (((a0.fParties % (4:UInt8)).toNat:Nat):Int),vI (((a0.fLevels % (3:UInt8)).toNat:Nat):Int),c0] Y0 (.tl (.tl (.tl .hd))) (o4 rfl rfl rfl (Bz (α:=TUnit) Y0 (.tl .hd))) (fun E9 u2 Q4=>?_)
 refine Aa<|Am rfl ?_
 have x6:=Al A3 Q4
 have Z6:=AQ (α:=TUnit) u2 (.tl .hd) x6 hL
 have V1:=Bf u2 (.tl .hd)
 have d9:=Bg u2 (.tl .hd)
 have b7:=Bh (α:=TUnit) (v:=c0) (xs:=K0) V1 L Z6
 refine Ay hb0 Tryz.func39 rfl (.cons (.many (cs:=[vI (((a0.fGroups % (3:UInt8)).toNat:Nat):Int),vI (((a0.fParties % (4:UInt8)).toNat:Nat):Int),vI (((a0.fLevels % (3:UInt8)).toNat:Nat):Int),c0]) (by kernel_rfl) rfl (V1.memA (.tl (.tl .hd)))) .nil) rfl ?_
 cases h
 exact ⟨V1.ag,fun w9 hw9=>⟨c0,rfl,V1.kd b7 hw9⟩⟩
structure TDraft28 where
  fL:List (UInt8 × UInt8)
  deriving DecidableEq
instance:Rep TDraft28:=Rep.via (β:=(List (UInt8 × UInt8))) fun x=>x.fL
structure TScene where
  fD:TDraft
  fX:TDraft26
  fL:TDraft28
  deriving DecidableEq
instance:Rep TScene:=Rep.via (β:=TDraft × TDraft26 × TDraft28) fun x=>(x.fD,x.fX,x.fL)
def tb10_3:List (Nat × Nat × Nat):=[(0,262144,256),(0,524288,2),(2,1048576,524288),(0,2097152,256),(8,4194304,2097152),(20,8388608,5242880),(0,16777216,64),(0,33554432,128),(33,0,262148),(319,0,8388616),(895,16,16777216),(2047,32,33554432)]
theorem body37:bodyB Tryz.prog 37 = true:=by kernel_rfl
theorem body38:bodyB Tryz.prog 38 = true:=by kernel_rfl
theorem body39:bodyB Tryz.prog 39 = true:=by kernel_rfl
def wardmotelaw26_Scene_set_p (n:Nat) (a0:TScene):Option (TGraph × TRoll × (List Int) × Int):=
  (wardmoteref21_Draft_Loose_p n a0.fD).bind fun b0=>(wardmoteref21_Draft_Graph_p n a0.fD).bind fun c0=>(wardmoteref22_Draft_Roll_p n a0.fX c0.fN).bind fun d0=>some (c0,d0,b0.1,b0.2)
theorem wardmotelaw26_Scene_set_c (n:Nat) (L:List Nat) (w:World) (hL:∀ b ∈ L,b < w.heap.size) (a0:TScene) {v0_1:Value} (h0_1:Rep.R w L [v0_1] a0.fD.fParents) {v0_2:Value} (h0_2:Rep.R w L [v0_2] a0.fD.fMore) {v0_3:Value} (h0_3:Rep.R w L [v0_3] a0.fD.fLabels) {v0_9:Value} (h0_9:Rep.R w L [v0_9] a0.fX.fNums) {v0_10:Value} (h0_10:Rep.R w L [v0_10] a0.fL.fL)  {r:TGraph × TRoll × (List Int) × Int} (h:wardmotelaw26_Scene_set_p n a0 = some r) :
    Calls Tryz.prog 10 #[.agg #[.int .u8 (a0.fD.fN.toNat:Int),v0_1,v0_2,v0_3,.int .u8 (a0.fD.fK.toNat:Int),.int .u8 (a0.fX.fGroups.toNat:Int),.int .u8 (a0.fX.fParties.toNat:Int),.int .u8 (a0.fX.fLevels.toNat:Int),.int .u8 (a0.fX.fWater.toNat:Int),v0_9,v0_10]] w (Gives w fun w' u=>∃ v0_1 v1_3 v2_0:Value,u = .tuple #[.agg #[vI r.1.fN,v0_1],.agg #[vI r.2.1.fGroups,vI r.2.1.fParties,vI r.2.1.fLevels,v1_3],v2_0,vI r.2.2.2]∧Rep.R w' L [v0_1] r.1.fEdges∧Rep.R w' L [v1_3] r.2.1.fUnits∧Rep.R w' L [v2_0] r.2.2.1):=by
 unfold wardmotelaw26_Scene_set_p at h
 have hS0:=AK w
 refine AM Tryz.func10 rfl rfl rfl (fun _ cs0 hb0=>?_)
 refine Ae<|Az .plain rfl (AI hS0 rfl rfl) (fun w2 b5 hS3 hT4=>?_)
 refine Az .plain rfl (AX [vI 0,vN] hS3) (fun w7 d1 hS8 hT9=>?_)
 refine Az .plain rfl (AX [vI 0,vI 0,vI 0,vN] hS8) (fun u1 g1 d0 k1=>?_)
 refine Ag rfl<|Ag rfl<|Aa<|Ae<|AH 0 rfl<|Ab (FV.loadN (cs:=[.int .u8 (a0.fD.fN.toNat:Int),v0_1,v0_2,v0_3,.int .u8 (a0.fD.fK.toNat:Int)]) (by kernel_rfl) rfl (mem_part (d0.memA (.tl (.tl .hd))) 0 5)) ?_
 obtain ⟨D1,Y0,h⟩:=bi h
 refine Bx (fst:=[]) (cap:=[]) .plain body37 rfl (e1 rfl) (fun w9 hw9=>wardmoteref21_Draft_Loose_c n _ w9 (d0.hL hL hw9) a0.fD (d0.km h0_1 hw9) (d0.km h0_2 hw9) (d0.km h0_3 hw9) Y0) rfl (fun v1 q1 J0 ⟨c1,hu_,X0⟩=>?_)
 subst hu_
 obtain ⟨g0,p1⟩:=d0.agr J0
 refine Ac rfl<|Ab (Au rfl rfl)<|Ab (Au rfl rfl)<|Ag rfl<|Ag rfl<|Aa<|Ae<|AH 0 rfl<|Ab (FV.loadN (cs:=[.int .u8 (a0.fD.fN.toNat:Int),v0_1,v0_2,v0_3,.int .u8 (a0.fD.fK.toNat:Int)]) (by kernel_rfl) rfl (mem_part (g0.memA (.tl (.tl .hd))) 0 5)) ?_
 obtain ⟨s0,Z0,h⟩:=bi h
 refine Bx (fst:=[]) (cap:=[]) .plain body38 rfl (e1 rfl) (fun w9 hw9=>wardmoteref21_Draft_Graph_c n _ w9 (g0.hL hL hw9) a0.fD (g0.km h0_1 hw9) (g0.km h0_2 hw9) (g0.km h0_3 hw9) Z0) rfl (fun x1 s1 K0 ⟨q0,hu_,u0⟩=>?_)
 subst hu_
 obtain ⟨C0,G0⟩:=g0.agr K0
 refine Az .plain rfl (AX [vI 0,vN] C0) (fun y1 j1 D0 x0=>?_)
 have P0:=Aj u0 x0
 refine Bk [vI s0.fN,q0] D0 .hd (o2 rfl (AP P0)) (fun z1 j0 H0=>?_)
 refine Aa<|Ak<|Bm 8 tb10_3 (by kernel_rfl) (by kernel_rfl) (by kernel_rfl) (fun b0 c0=>?_)
 refine AT 0 1 3840 b0 rfl c0 (AG rfl (j0.memA .hd)) rfl<|Ah 1 3 b0 rfl c0 (fun _=>Bt 5 rfl) rfl<|AT 2 7 3872 b0 rfl c0 (FV.loadN (cs:=[.int .u8 (a0.fX.fGroups.toNat:Int),.int .u8 (a0.fX.fParties.toNat:Int),.int .u8 (a0.fX.fLevels.toNat:Int),.int .u8 (a0.fX.fWater.toNat:Int),v0_9]) (by kernel_rfl) rfl (mem_part (j0.memA (.tl (.tl (.tl .hd)))) 5 5)) rfl<|Ah 3 15 b0 rfl c0 (fun _=>Bt 0 rfl) rfl<|AT 4 31 3872 b0 rfl c0 (AA rfl ((j0.memA .hd) 0 _ rfl)) rfl<|Ah 6 95 b0 rfl c0 (fun _=>Ai rfl) rfl<|Ah 7 223 b0 rfl c0 (fun _=>Ai rfl) rfl ?_
 obtain ⟨p0,b1,h⟩:=bi h
 refine RD.cl 5 255 b0 rfl .plain body39 rfl (e2 rfl rfl) (fun w9 hw9=>wardmoteref22_Draft_Roll_c n _ w9 (j0.hL hL hw9) a0.fX (j0.km h0_9 hw9) s0.fN b1) rfl (fun A1 t1 M0 ⟨v0,hu_,B0⟩=>?_)
 subst hu_
 obtain ⟨E0,I0⟩:=j0.agr M0
 have z0:=Tt x0 (Tt H0 I0)
 have Q0:=Aj u0 z0
 refine RD.nw 8 511 b0 rfl rfl .plain (Bq (news:=[vI s0.fN,q0]) E0 (.tl (.tl .hd)) rfl rfl rfl rfl rfl rfl (o2 rfl (AP Q0))) (fun B1 F0 t0=>?_)
 have R0:=Aj B0 t0
 refine RD.nw 9 1023 b0 rfl rfl .plain (Bq (news:=[vI p0.fGroups,vI p0.fParties,vI p0.fLevels,v0]) F0 (.tl .hd) rfl rfl rfl rfl rfl rfl (o4 rfl rfl rfl (AP R0))) (fun C1 k0 y0=>?_)
 refine Ah 10 2047 b0 rfl c0 (fun _=>BP rfl) rfl<|Ah 11 4095 b0 rfl c0 (fun _=>BP rfl) rfl<|Bc (doneD_ok b0 (by kernel_rfl))<|Am rfl<|Ay hb0 Tryz.func10 rfl (.cons (.many (cs:=[vI s0.fN,q0]) (by kernel_rfl) rfl (k0.memA (.tl (.tl .hd)))) (.cons (.many (cs:=[vI p0.fGroups,vI p0.fParties,vI p0.fLevels,v0]) (by kernel_rfl) rfl (k0.memA (.tl .hd))) (.cons (.tmp rfl) (.cons (.tmp rfl) .nil)))) rfl ?_
 cases h
 have A0:=Tt z0 (Tt t0 y0)
 have U0:=Aj u0 A0
 have V0:=Aj B0 (Tt t0 y0)
 have W0:=Aj X0 (Tt G0 A0)
 exact ⟨k0.ag,fun w9 hw9=>⟨q0,v0,c1,rfl,k0.kd U0 hw9,k0.kd V0 hw9,k0.kd W0 hw9⟩⟩
def tb75_6:List (Nat × Nat × Nat):=[(0,134217728,2),(1,268435456,134217728),(0,536870912,8),(6,1073741824,805306368),(8,2147483648,1073741824),(16,4294967296,2147483648),(0,8589934592,2),(64,17179869184,8589934592),(0,34359738368,8),(384,68719476736,51539607552),(512,137438953472,68719476736),(1024,274877906944,137438953472),(63,16,4294967296),(8191,32,274877906944)]
def wardmoteref18_Check_l1 (_n:Nat) (a0:TGraph) (d0:Nat → Option (Int ⊕ Unit)):Nat → Option (Int ⊕ Unit)
  | b0=>(if b0 < a0.fEdges.length then (a0.fEdges[b0]?).bind fun c0=>(if c0.1 < 0 then some (.inl (180:Int)) else (if c0.2 ≤ c0.1 then some (.inl (180:Int)) else (if a0.fN ≤ c0.2 then some (.inl (180:Int)) else (if 0 < b0 then (a0.fEdges[b0 - 1]?).bind fun g0=>(if c0.1 < g0.1 then some (.inl (180:Int)) else (if g0.1 = c0.1 then (if c0.2 ≤ g0.2 then some (.inl (180:Int)) else d0 (b0 + 1)) else d0 (b0 + 1))) else d0 (b0 + 1))))) else some (.inr ()))
def wardmoteref18_Check_p (n:Nat) (a0:TGraph):Option Int:=
  (if a0.fN < 1 then some (180:Int) else (if 64 < a0.fN then some (180:Int) else (if 200 < a0.fEdges.length then some (180:Int) else thn (loopF (wardmoteref18_Check_l1 n a0) n 0) (fun _=>some (0:Int)))))
theorem wardmoteref18_Check_c (n:Nat) (L:List Nat) (w:World) (_hL:∀ b ∈ L,b < w.heap.size) (a0:TGraph) {v0_1:Value} (h0_1:Rep.R w L [v0_1] a0.fEdges)  {r:Int} (h:wardmoteref18_Check_p n a0 = some r) :
    Calls Tryz.prog 75 #[.agg #[vI a0.fN,v0_1]] w (Gives w fun _ u=>u = vI r):=by
 unfold wardmoteref18_Check_p at h
 have hS0:=AK w
 refine AM Tryz.func75 rfl rfl rfl (fun _ cs0 hb0=>?_)
 refine Ae<|Az .plain rfl (AI hS0 rfl rfl) (fun w2 b5 hS3 hT4=>?_)
 refine Ag rfl<|Aa<|Ak<|Ae<|AH 0 rfl<|AS rfl ((hS3.memA .hd) 0 _ rfl)<|Ab (BF (i:=a0.fN) (j:=1) rfl rfl)<|Ac rfl<|Bi (s:=9) rfl h (fun c6 h=>?_) (fun c6 h=>?_)
 refine Af<|Af<|Af<|AU rfl rfl<|Ac rfl<|Af<|Af<|Af<|Af<|AU rfl rfl<|Aa<|AY rfl<|Ae<|Ag rfl<|Aa<|Am rfl<|AJ hb0 Tryz.func75 rfl rfl ?_
 cases h
 exact hS3.gv
 refine BB 0 rfl<|Ap (AA rfl ((hS3.memA .hd) 0 _ rfl))<|Ap (FV.gtr (i:=a0.fN) (j:=64) rfl rfl)<|AO rfl rfl<|Ac rfl<|Bi (s:=14) rfl h (fun c7 h=>?_) (fun c7 h=>?_)
 refine Af<|Af<|Af<|Af<|AU rfl rfl<|Aa<|AY rfl<|Ae<|Ag rfl<|Aa<|Am rfl<|AJ hb0 Tryz.func75 rfl rfl ?_
 cases h
 exact hS3.gv
 refine BB 1 rfl<|Ap (AA rfl ((hS3.memA .hd) 1 _ rfl)) ?_
 have hm9:=Ax h0_1 hS3
 have hl8:a0.fEdges.length ≤ 281474976710656:=AZ hm9
 refine Ap (Bj (xs:=a0.fEdges) Tryz.underlying36 rfl hm9)<|Ap (FV.gtrN (i:=a0.fEdges.length) (j:=200) rfl rfl)<|AO rfl rfl<|Aa<|AW rfl h (fun C0 h=>?_) (fun C0 h=>?_)
 refine Ae<|Ag rfl<|Aa<|Am rfl<|AJ hb0 Tryz.func75 rfl rfl ?_
 cases h
 exact hS3.gv
 refine Ao<|Ak<|Ae<|Ag rfl<|Aa<|AB ?_
 obtain ⟨d1,M0,k0⟩:=thn_in h
 refine Bp (α:=Nat) (fun b0=>[(1,vP b5),(3,vI ((b0:Nat):Int))]) (fun b0 x0=>St w x0 [.cells b5 [vI a0.fN,v0_1] 38]∧Tr w2 [.cells b5 [vI a0.fN,v0_1] 38] x0 [.cells b5 [vI a0.fN,v0_1] 38]) (fun b0=>b0) 0 M0 ⟨rfl,rfl,trivial⟩ ⟨hS3,AN _ _⟩ ?_
 rintro X0 b0 x0 p0 ⟨c0,q0⟩ h
 unfold wardmoteref18_Check_l1 at h
 try dsimp only at h
 refine Ak<|Ae<|Ac rfl<|AH 1 rfl<|AS rfl ((c0.memA .hd) 1 _ rfl) ?_
 have u0:=Ax h0_1 c0
 refine Ab (Bj (xs:=a0.fEdges) Tryz.underlying36 rfl u0)<|Ab (BA (i:=b0) (j:=a0.fEdges.length) rfl rfl)<|Aa<|AW rfl h (fun D0 h=>?_) (fun D0 h=>?_)
 refine Ao<|Ak<|AB<|Ak<|Bm 14 tb75_6 (by kernel_rfl) (by kernel_rfl) (by kernel_rfl) (fun d0 g0=>?_)
 refine Ah 0 1 d0 rfl g0 (fun _=>Bt 1 rfl) rfl<|AT 1 3 12344 d0 rfl g0 (AA rfl ((c0.memA .hd) 1 _ rfl)) rfl<|Ah 2 7 d0 rfl g0 (fun _=>Ai rfl) rfl ?_
 obtain ⟨j0,R0,h⟩:=bi h
 obtain ⟨V0,Y0,z0,A0,b1,P0,B0⟩:=Bb u0 R0
 obtain rfl:=op_A52 P0
 refine Ah 3 15 d0 rfl g0 (fun _=>Be 2 b0 rfl z0 rfl rfl A0) rfl<|Ah 4 31 d0 rfl g0 (fun _=>BN (m:=1) (k:=0) (len:=2) (by kernel_rfl) rfl rfl rfl (by omega)) rfl<|AT 5 63 12288 d0 rfl g0 (AA rfl (B0 0 _ rfl)) rfl<|Ah 6 127 d0 rfl g0 (fun _=>Bt 1 rfl) rfl<|AT 7 255 11776 d0 rfl g0 (AA rfl ((c0.memA .hd) 1 _ rfl)) rfl<|Ah 8 511 d0 rfl g0 (fun _=>Ai rfl) rfl<|Ah 9 1023 d0 rfl g0 (fun _=>Be 2 b0 rfl z0 rfl rfl A0) rfl<|Ah 10 2047 d0 rfl g0 (fun _=>BN (m:=1) (k:=1) (len:=2) (by kernel_rfl) rfl rfl rfl (by omega)) rfl<|AT 11 4095 8192 d0 rfl g0 (AA rfl (B0 1 _ rfl)) rfl<|Ah 12 8191 d0 rfl g0 (fun _=>BP rfl) rfl<|Ah 13 16383 d0 rfl g0 (fun _=>BP rfl) rfl<|Bc (doneD_ok d0 (by kernel_rfl))<|Ak<|Ae<|Ac rfl<|Ab (BF (i:=j0.1) (j:=0) rfl rfl)<|Ac rfl<|Bi (s:=41) rfl h (fun E0 h=>?_) (fun E0 h=>?_)
 refine Af<|Af<|Af<|AU rfl rfl<|Ac rfl<|Af<|Af<|Af<|Af<|AU rfl rfl<|Aa<|AY rfl<|Ae<|Ag rfl<|Aa ?_
 have h:=thn_inl h k0
 refine Am rfl<|AJ hb0 Tryz.func75 rfl rfl ?_
 cases h
 exact c0.gv
 refine Ap (Ai rfl)<|Ap (Ai rfl)<|Ap (FV.geq (i:=j0.1) (j:=j0.2) rfl rfl)<|AO rfl rfl<|Ac rfl<|Bi (s:=46) rfl h (fun F0 h=>?_) (fun F0 h=>?_)
 refine Af<|Af<|Af<|Af<|AU rfl rfl<|Aa<|AY rfl<|Ae<|Ag rfl<|Aa ?_
 have h:=thn_inl h k0
 refine Am rfl<|AJ hb0 Tryz.func75 rfl rfl ?_
 cases h
 exact c0.gv
 refine Ap (Ai rfl)<|BB 0 rfl<|Ap (AA rfl ((c0.memA .hd) 0 _ rfl))<|Ap (FV.geq (i:=j0.2) (j:=a0.fN) rfl rfl)<|AO rfl rfl<|Aa<|AW rfl h (fun G0 h=>?_) (fun G0 h=>?_)
 refine Ae<|Ag rfl<|Aa ?_
 have h:=thn_inl h k0
 refine Am rfl<|AJ hb0 Tryz.func75 rfl rfl ?_
 cases h
 exact c0.gv
 refine Ao<|Ae<|Ac rfl<|Ab (FV.gtrN (i:=b0) (j:=0) rfl rfl)<|Ac rfl<|Bi (s:=54) rfl h (fun H0 h=>?_) (fun H0 h=>?_)
 refine BB 1 rfl<|Ap (AA rfl ((c0.memA .hd) 1 _ rfl))<|Ap (Ai rfl)<|Ap (FV.subN (i:=b0) (j:=1) rfl rfl (by omega) (by omega)) ?_
 obtain ⟨y0,U0,h⟩:=bi h
 obtain ⟨W0,Z0,s0,t0,c1,Q0,v0⟩:=Bb u0 U0
 obtain rfl:=op_A52 Q0
 refine Ap (Be 2 (b0 - 1) rfl s0 rfl rfl t0)<|Ap (BN (m:=1) (k:=0) (len:=2) (by kernel_rfl) rfl rfl rfl (by omega))<|Ap (AA rfl (v0 0 _ rfl))<|Ap (Ai rfl)<|Ap (FV.gtr (i:=y0.1) (j:=j0.1) rfl rfl)<|Ap (Ai rfl)<|Bi (s:=64) rfl h (fun I0 h=>?_) (fun I0 h=>?_)
 refine Af<|Af<|Af<|Af<|Af<|Af<|Af<|Af<|Af<|Af<|RG.un<|RG.un<|RG.un<|RG.un<|RG.un<|RG.un<|RG.un<|RG.un<|RG.un<|Af<|Ap (Bl rfl rfl)<|AU rfl rfl<|Aa<|AY rfl ?_
 refine Ae<|Ag rfl<|Aa ?_
 have h:=thn_inl h k0
 refine Am rfl<|AJ hb0 Tryz.func75 rfl rfl ?_
 cases h
 exact c0.gv
 refine BB 1 rfl<|Ap (AA rfl ((c0.memA .hd) 1 _ rfl))<|Ap (Ai rfl)<|Ap (FV.subN (i:=b0) (j:=1) rfl rfl (by omega) (by omega))<|Ap (Be 2 (b0 - 1) rfl s0 rfl rfl t0)<|Ap (BN (m:=1) (k:=0) (len:=2) (by kernel_rfl) rfl rfl rfl (by omega))<|Ap (AA rfl (v0 0 _ rfl))<|Ap (Ai rfl)<|Ap (FV.eql (i:=y0.1) (j:=j0.1) rfl rfl)<|Ap (Ai rfl)<|Bi (s:=74) rfl h (fun J0 h=>?_) (fun J0 h=>?_)
 refine BB 1 rfl<|Ap (AA rfl ((c0.memA .hd) 1 _ rfl))<|Ap (Ai rfl)<|Ap (FV.subN (i:=b0) (j:=1) rfl rfl (by omega) (by omega))<|Ap (Be 2 (b0 - 1) rfl s0 rfl rfl t0)<|Ap (BN (m:=1) (k:=1) (len:=2) (by kernel_rfl) rfl rfl rfl (by omega))<|Ap (AA rfl (v0 1 _ rfl))<|Ap (Ai rfl)<|Ap (FV.geq (i:=y0.2) (j:=j0.2) rfl rfl)<|Ap (Bl rfl rfl)<|Ap (Bn rfl rfl)<|AU rfl rfl<|Aa<|AW rfl h (fun K0 h=>?_) (fun K0 h=>?_)
 refine Ae<|Ag rfl<|Aa ?_
 have h:=thn_inl h k0
 refine Am rfl<|AJ hb0 Tryz.func75 rfl rfl ?_
 cases h
 exact c0.gv
 refine Ao<|AF<|Aw<|Ac rfl<|Ab (Bu (i:=b0) (j:=1) rfl rfl (by omega))<|Ag rfl<|Aa ?_
 exact p0 (b0 + 1) _ _ ⟨rfl,rfl,trivial⟩ ⟨c0,q0⟩ h
 refine Af<|Af<|Af<|Af<|Af<|Af<|Af<|Af<|Af<|Ap (Bn rfl rfl)<|Ap (Bn rfl rfl)<|AU rfl rfl<|Aa<|BC rfl<|Ao<|AF<|Aw<|Ac rfl<|Ab (Bu (i:=b0) (j:=1) rfl rfl (by omega))<|Ag rfl<|Aa ?_
 exact p0 (b0 + 1) _ _ ⟨rfl,rfl,trivial⟩ ⟨c0,q0⟩ h
 refine Af<|Af<|Af<|Af<|Af<|Af<|Af<|Af<|Af<|Af<|RG.un<|RG.un<|RG.un<|RG.un<|RG.un<|RG.un<|RG.un<|RG.un<|RG.un<|RG.un<|RG.un<|RG.un<|RG.un<|RG.un ?_
 refine RG.un<|RG.un<|RG.un<|RG.un<|RG.un<|RG.un<|Af<|AO rfl rfl<|Aa<|BC rfl<|Ao<|AF<|Aw<|Ac rfl<|Ab (Bu (i:=b0) (j:=1) rfl rfl (by omega))<|Ag rfl<|Aa ?_
 exact p0 (b0 + 1) _ _ ⟨rfl,rfl,trivial⟩ ⟨c0,q0⟩ h
 refine Bd rfl ?_
 have h:=thn_inr h k0
 try dsimp only at h
 refine Ae<|Ag rfl<|Aa<|Am rfl<|AJ hb0 Tryz.func75 rfl rfl ?_
 cases h
 exact c0.gv
def wardmoteref16_named_l1 (_n:Nat) (a0:ByteArray) (g0:Int → Option (Bool ⊕ Unit)):Int → Option (Bool ⊕ Unit)
  | d0=>(if d0 < ((a0.size:Nat):Int) then (sidx a0 d0).bind fun b0=>jn (fun j0=>(if j0 = true then some (.inl false) else (chk (d0 + 1)).bind fun k0=>g0 k0)) (fun c0=>(if 65 ≤ b0.toNat then (if b0.toNat ≤ 90 then c0 false else (if 97 ≤ b0.toNat then (if b0.toNat ≤ 122 then c0 false else (if 48 ≤ b0.toNat then (if b0.toNat ≤ 57 then c0 false else (if b0.toNat = 45 then c0 false else c0 (!(decide (b0.toNat = 95))))) else (if b0.toNat = 45 then c0 false else c0 (!(decide (b0.toNat = 95)))))) else (if 48 ≤ b0.toNat then (if b0.toNat ≤ 57 then c0 false else (if b0.toNat = 45 then c0 false else c0 (!(decide (b0.toNat = 95))))) else (if b0.toNat = 45 then c0 false else c0 (!(decide (b0.toNat = 95))))))) else (if 97 ≤ b0.toNat then (if b0.toNat ≤ 122 then c0 false else (if 48 ≤ b0.toNat then (if b0.toNat ≤ 57 then c0 false else (if b0.toNat = 45 then c0 false else c0 (!(decide (b0.toNat = 95))))) else (if b0.toNat = 45 then c0 false else c0 (!(decide (b0.toNat = 95)))))) else (if 48 ≤ b0.toNat then (if b0.toNat ≤ 57 then c0 false else (if b0.toNat = 45 then c0 false else c0 (!(decide (b0.toNat = 95))))) else (if b0.toNat = 45 then c0 false else c0 (!(decide (b0.toNat = 95)))))))) else some (.inr ()))
def wardmoteref16_named_p (n:Nat) (a0:ByteArray):Option Bool:=
  thn (loopF (wardmoteref16_named_l1 n a0) n 0) (fun _=>(if 1 ≤ a0.size then some (decide (a0.size ≤ 12)) else some false))
theorem wardmoteref16_named_c (n:Nat) (L:List Nat) (w:World) (_hL:∀ b ∈ L,b < w.heap.size) (a0:ByteArray)  {r:Bool} (h:wardmoteref16_named_p n a0 = some r) :
    Calls Tryz.prog 120 #[.string a0] w (Gives w fun _ u=>u = .bool r):=by
 unfold wardmoteref16_named_p at h
 have hS0:=AK w
 refine AM Tryz.func120 rfl rfl rfl (fun _ cs0 hb0=>?_)
 refine Ae<|Ag rfl<|Aa<|Ak<|Ae<|Ag rfl<|Aa<|AB ?_
 obtain ⟨u1,d1,s0⟩:=thn_in h
 refine Bp (α:=Int) (fun g0=>[(0,.string a0),(3,vI g0)]) (fun g0 k0=>St w k0 []∧Tr w [] k0 []) (fun g0=>g0) 0 d1 ⟨rfl,rfl,trivial⟩ ⟨hS0,AN _ _⟩ ?_
 rintro q1 g0 k0 Y0 ⟨c0,Z0⟩ h
 unfold wardmoteref16_named_l1 at h
 try dsimp only at h
 refine Ak<|Ae<|Ac rfl<|Ac rfl<|Ab (BK Tryz.underlying9 rfl)<|Ab (BF (i:=g0) (j:=((a0.size:Nat):Int)) rfl rfl)<|Aa<|AW rfl h (fun t0 h=>?_) (fun t0 h=>?_)
 refine Ao<|Ak<|AB<|Ae<|Ac rfl<|Ac rfl ?_
 obtain ⟨b0,k1,h⟩:=bi h
 obtain ⟨c1,j1⟩:=sidx_in k1
 refine Ab (FV.strAt (k:=g0.toNat) Tryz.underlying9 rfl rfl c1 j1)<|Ag rfl<|Aa<|Ak<|MX.join (α:=Bool) (fun j0=>[(0,.string a0),(3,vI g0),(44,.bool j0)]) (fun j0 p0=>St w p0 []∧Tr k0 [] p0 []) (fun j0=>j0) h ?_ ?_
 rintro j0 p0 ⟨q0,b1⟩ h
 try dsimp only at h
 refine MX.ifb rfl h (fun u0 h=>?_) (fun u0 h=>?_)
 refine Ae<|Ag rfl<|Aa ?_
 have h:=thn_inl h s0
 refine Am rfl<|AJ hb0 Tryz.func120 rfl rfl ?_
 cases h
 exact q0.gv
 refine Ao<|AF<|Aw<|Ac rfl ?_
 obtain ⟨p1,g1,h⟩:=bi h
 refine Ab (BT (i:=g0) (j:=1) rfl rfl g1)<|Ag rfl<|Aa ?_
 exact Y0 p1 _ _ ⟨rfl,rfl,trivial⟩ ⟨q0,(Tt Z0 b1)⟩ h
 intro s1 d0 h
 try dsimp only at h
 refine Aw<|Ac rfl<|Ab (FV.geqN (i:=b0.toNat) (j:=65) rfl rfl)<|Ac rfl<|Bi (s:=16) rfl h (fun v0 h=>?_) (fun v0 h=>?_)
 refine Ap (Ai rfl)<|Ap (FV.leqN (i:=b0.toNat) (j:=90) rfl rfl)<|AU rfl rfl<|Ac rfl<|Bi (s:=20) rfl h (fun x0 h=>?_) (fun x0 h=>?_)
 refine Af<|Af<|Af<|RG.un<|RG.un<|Af<|AU rfl rfl<|Ac rfl<|Af<|Af<|Af<|RG.un<|RG.un<|Af<|AU rfl rfl<|Ac rfl<|Af<|Af<|AU rfl rfl<|Ac rfl<|Af<|Af<|AU rfl rfl<|Ab (Ba rfl) ?_
 refine Aa ?_
 exact d0 false _ _ ⟨rfl,rfl,rfl,trivial⟩ ⟨c0,AN _ _⟩ h
 refine Ap (Ai rfl)<|Ap (FV.geqN (i:=b0.toNat) (j:=97) rfl rfl)<|Ap (Ai rfl)<|Bi (s:=23) rfl h (fun y0 h=>?_) (fun y0 h=>?_)
 refine Ap (Ai rfl)<|Ap (FV.leqN (i:=b0.toNat) (j:=122) rfl rfl)<|Ap (Bl rfl rfl)<|AO rfl rfl<|Ac rfl<|Bi (s:=28) rfl h (fun z0 h=>?_) (fun z0 h=>?_)
 refine Af<|Af<|Af<|RG.un<|RG.un<|Af<|AU rfl rfl<|Ac rfl<|Af<|Af<|AU rfl rfl<|Ac rfl<|Af<|Af<|AU rfl rfl<|Ab (Ba rfl)<|Aa ?_
 exact d0 false _ _ ⟨rfl,rfl,rfl,trivial⟩ ⟨c0,AN _ _⟩ h
 refine Ap (Ai rfl)<|Ap (FV.geqN (i:=b0.toNat) (j:=48) rfl rfl)<|Ap (Ai rfl)<|Bi (s:=31) rfl h (fun A0 h=>?_) (fun A0 h=>?_)
 refine Ap (Ai rfl)<|Ap (FV.leqN (i:=b0.toNat) (j:=57) rfl rfl)<|Ap (Bl rfl rfl)<|AO rfl rfl<|Ac rfl<|Bi (s:=36) rfl h (fun B0 h=>?_) (fun B0 h=>?_)
 refine Af<|Af<|AU rfl rfl<|Ac rfl<|Af<|Af<|AU rfl rfl<|Ab (Ba rfl)<|Aa ?_
 exact d0 false _ _ ⟨rfl,rfl,rfl,trivial⟩ ⟨c0,AN _ _⟩ h
 refine Ap (Ai rfl)<|Ap (BR (i:=b0.toNat) (j:=45) rfl rfl)<|AO rfl rfl<|Ac rfl<|Bi (s:=40) rfl h (fun C0 h=>?_) (fun C0 h=>?_)
 refine Af<|Af<|AU rfl rfl<|Ab (Ba rfl)<|Aa ?_
 exact d0 false _ _ ⟨rfl,rfl,rfl,trivial⟩ ⟨c0,AN _ _⟩ h
 refine Ap (Ai rfl)<|Ap (BR (i:=b0.toNat) (j:=95) rfl rfl)<|AO rfl rfl<|Ab (Ba rfl)<|Aa ?_
 exact d0 (!(decide (b0.toNat = 95))) _ _ ⟨rfl,rfl,rfl,trivial⟩ ⟨c0,AN _ _⟩ h
 refine Af<|Af<|Ap (Bn rfl rfl)<|AO rfl rfl<|Ac rfl<|Ap (Ai rfl)<|Ap (BR (i:=b0.toNat) (j:=45) rfl rfl)<|AO rfl rfl<|Ac rfl<|Bi (s:=40) rfl h (fun D0 h=>?_) (fun D0 h=>?_)
 refine Af<|Af<|AU rfl rfl<|Ab (Ba rfl)<|Aa ?_
 exact d0 false _ _ ⟨rfl,rfl,rfl,trivial⟩ ⟨c0,AN _ _⟩ h
 refine Ap (Ai rfl)<|Ap (BR (i:=b0.toNat) (j:=95) rfl rfl)<|AO rfl rfl<|Ab (Ba rfl)<|Aa ?_
 exact d0 (!(decide (b0.toNat = 95))) _ _ ⟨rfl,rfl,rfl,trivial⟩ ⟨c0,AN _ _⟩ h
 refine Af<|Af<|Ap (Bn rfl rfl)<|AO rfl rfl<|Ac rfl<|Ap (Ai rfl)<|Ap (FV.geqN (i:=b0.toNat) (j:=48) rfl rfl)<|Ap (Ai rfl)<|Bi (s:=31) rfl h (fun E0 h=>?_) (fun E0 h=>?_)
 refine Ap (Ai rfl)<|Ap (FV.leqN (i:=b0.toNat) (j:=57) rfl rfl)<|Ap (Bl rfl rfl)<|AO rfl rfl<|Ac rfl<|Bi (s:=36) rfl h (fun F0 h=>?_) (fun F0 h=>?_)
 refine Af<|Af<|AU rfl rfl<|Ac rfl<|Af<|Af<|AU rfl rfl<|Ab (Ba rfl)<|Aa ?_
 exact d0 false _ _ ⟨rfl,rfl,rfl,trivial⟩ ⟨c0,AN _ _⟩ h
 refine Ap (Ai rfl)<|Ap (BR (i:=b0.toNat) (j:=45) rfl rfl)<|AO rfl rfl<|Ac rfl<|Bi (s:=40) rfl h (fun G0 h=>?_) (fun G0 h=>?_)
 refine Af<|Af<|AU rfl rfl<|Ab (Ba rfl)<|Aa ?_
 exact d0 false _ _ ⟨rfl,rfl,rfl,trivial⟩ ⟨c0,AN _ _⟩ h
 refine Ap (Ai rfl)<|Ap (BR (i:=b0.toNat) (j:=95) rfl rfl)<|AO rfl rfl<|Ab (Ba rfl)<|Aa ?_
 exact d0 (!(decide (b0.toNat = 95))) _ _ ⟨rfl,rfl,rfl,trivial⟩ ⟨c0,AN _ _⟩ h
 refine Af<|Af<|Ap (Bn rfl rfl)<|AO rfl rfl<|Ac rfl<|Ap (Ai rfl)<|Ap (BR (i:=b0.toNat) (j:=45) rfl rfl)<|AO rfl rfl<|Ac rfl<|Bi (s:=40) rfl h (fun H0 h=>?_) (fun H0 h=>?_)
 refine Af<|Af<|AU rfl rfl<|Ab (Ba rfl)<|Aa ?_
 exact d0 false _ _ ⟨rfl,rfl,rfl,trivial⟩ ⟨c0,AN _ _⟩ h
 refine Ap (Ai rfl)<|Ap (BR (i:=b0.toNat) (j:=95) rfl rfl)<|AO rfl rfl<|Ab (Ba rfl)<|Aa ?_
 exact d0 (!(decide (b0.toNat = 95))) _ _ ⟨rfl,rfl,rfl,trivial⟩ ⟨c0,AN _ _⟩ h
 refine Af<|Af<|AO rfl rfl<|Ac rfl<|Ap (Ai rfl)<|Ap (FV.geqN (i:=b0.toNat) (j:=97) rfl rfl)<|Ap (Ai rfl)<|Bi (s:=23) rfl h (fun I0 h=>?_) (fun I0 h=>?_)
 refine Ap (Ai rfl)<|Ap (FV.leqN (i:=b0.toNat) (j:=122) rfl rfl)<|Ap (Bl rfl rfl)<|AO rfl rfl<|Ac rfl<|Bi (s:=28) rfl h (fun J0 h=>?_) (fun J0 h=>?_)
 refine Af<|Af<|Af<|RG.un<|RG.un<|Af<|AU rfl rfl<|Ac rfl<|Af<|Af<|AU rfl rfl<|Ac rfl<|Af<|Af<|AU rfl rfl<|Ab (Ba rfl)<|Aa ?_
 exact d0 false _ _ ⟨rfl,rfl,rfl,trivial⟩ ⟨c0,AN _ _⟩ h
 refine Ap (Ai rfl)<|Ap (FV.geqN (i:=b0.toNat) (j:=48) rfl rfl)<|Ap (Ai rfl)<|Bi (s:=31) rfl h (fun K0 h=>?_) (fun K0 h=>?_)
 refine Ap (Ai rfl)<|Ap (FV.leqN (i:=b0.toNat) (j:=57) rfl rfl)<|Ap (Bl rfl rfl)<|AO rfl rfl<|Ac rfl<|Bi (s:=36) rfl h (fun M0 h=>?_) (fun M0 h=>?_)
 refine Af<|Af<|AU rfl rfl<|Ac rfl<|Af<|Af<|AU rfl rfl<|Ab (Ba rfl)<|Aa ?_
 exact d0 false _ _ ⟨rfl,rfl,rfl,trivial⟩ ⟨c0,AN _ _⟩ h
 refine Ap (Ai rfl)<|Ap (BR (i:=b0.toNat) (j:=45) rfl rfl)<|AO rfl rfl<|Ac rfl<|Bi (s:=40) rfl h (fun P0 h=>?_) (fun P0 h=>?_)
 refine Af<|Af<|AU rfl rfl<|Ab (Ba rfl)<|Aa ?_
 exact d0 false _ _ ⟨rfl,rfl,rfl,trivial⟩ ⟨c0,AN _ _⟩ h
 refine Ap (Ai rfl)<|Ap (BR (i:=b0.toNat) (j:=95) rfl rfl)<|AO rfl rfl<|Ab (Ba rfl)<|Aa ?_
 exact d0 (!(decide (b0.toNat = 95))) _ _ ⟨rfl,rfl,rfl,trivial⟩ ⟨c0,AN _ _⟩ h
 refine Af<|Af<|Ap (Bn rfl rfl)<|AO rfl rfl<|Ac rfl<|Ap (Ai rfl)<|Ap (BR (i:=b0.toNat) (j:=45) rfl rfl)<|AO rfl rfl<|Ac rfl<|Bi (s:=40) rfl h (fun Q0 h=>?_) (fun Q0 h=>?_)
 refine Af<|Af<|AU rfl rfl<|Ab (Ba rfl)<|Aa ?_
 exact d0 false _ _ ⟨rfl,rfl,rfl,trivial⟩ ⟨c0,AN _ _⟩ h
 refine Ap (Ai rfl)<|Ap (BR (i:=b0.toNat) (j:=95) rfl rfl)<|AO rfl rfl<|Ab (Ba rfl)<|Aa ?_
 exact d0 (!(decide (b0.toNat = 95))) _ _ ⟨rfl,rfl,rfl,trivial⟩ ⟨c0,AN _ _⟩ h
 refine Af<|Af<|Ap (Bn rfl rfl)<|AO rfl rfl<|Ac rfl<|Ap (Ai rfl)<|Ap (FV.geqN (i:=b0.toNat) (j:=48) rfl rfl)<|Ap (Ai rfl)<|Bi (s:=31) rfl h (fun R0 h=>?_) (fun R0 h=>?_)
 refine Ap (Ai rfl)<|Ap (FV.leqN (i:=b0.toNat) (j:=57) rfl rfl)<|Ap (Bl rfl rfl)<|AO rfl rfl<|Ac rfl<|Bi (s:=36) rfl h (fun U0 h=>?_) (fun U0 h=>?_)
 refine Af<|Af<|AU rfl rfl<|Ac rfl<|Af<|Af<|AU rfl rfl<|Ab (Ba rfl)<|Aa ?_
 exact d0 false _ _ ⟨rfl,rfl,rfl,trivial⟩ ⟨c0,AN _ _⟩ h
 refine Ap (Ai rfl)<|Ap (BR (i:=b0.toNat) (j:=45) rfl rfl)<|AO rfl rfl<|Ac rfl<|Bi (s:=40) rfl h (fun V0 h=>?_) (fun V0 h=>?_)
 refine Af<|Af<|AU rfl rfl<|Ab (Ba rfl)<|Aa ?_
 exact d0 false _ _ ⟨rfl,rfl,rfl,trivial⟩ ⟨c0,AN _ _⟩ h
 refine Ap (Ai rfl)<|Ap (BR (i:=b0.toNat) (j:=95) rfl rfl)<|AO rfl rfl<|Ab (Ba rfl)<|Aa ?_
 exact d0 (!(decide (b0.toNat = 95))) _ _ ⟨rfl,rfl,rfl,trivial⟩ ⟨c0,AN _ _⟩ h
 refine Af<|Af<|Ap (Bn rfl rfl)<|AO rfl rfl<|Ac rfl<|Ap (Ai rfl)<|Ap (BR (i:=b0.toNat) (j:=45) rfl rfl)<|AO rfl rfl<|Ac rfl<|Bi (s:=40) rfl h (fun W0 h=>?_) (fun W0 h=>?_)
 refine Af<|Af<|AU rfl rfl<|Ab (Ba rfl)<|Aa ?_
 exact d0 false _ _ ⟨rfl,rfl,rfl,trivial⟩ ⟨c0,AN _ _⟩ h
 refine Ap (Ai rfl)<|Ap (BR (i:=b0.toNat) (j:=95) rfl rfl)<|AO rfl rfl<|Ab (Ba rfl)<|Aa ?_
 exact d0 (!(decide (b0.toNat = 95))) _ _ ⟨rfl,rfl,rfl,trivial⟩ ⟨c0,AN _ _⟩ h
 refine Bd rfl ?_
 have h:=thn_inr h s0
 try dsimp only at h
 refine Ae<|Ac rfl<|Ab (BK Tryz.underlying9 rfl)<|Ab (FV.geqN (i:=a0.size) (j:=1) rfl rfl)<|Ac rfl<|Bi (s:=48) rfl h (fun X0 h=>?_) (fun X0 h=>?_)
 refine Ap (Ai rfl)<|Ap (BK Tryz.underlying9 rfl)<|Ap (FV.leqN (i:=a0.size) (j:=12) rfl rfl)<|AU rfl rfl<|Ag rfl<|Aa<|Am rfl<|AJ hb0 Tryz.func120 rfl rfl ?_
 cases h
 exact c0.gv
 refine Af<|Af<|Af<|AO rfl rfl<|Ag rfl<|Aa<|Am rfl<|AJ hb0 Tryz.func120 rfl rfl ?_
 cases h
 exact c0.gv
def wardmoteref16_within_l1 (_n:Nat) (a0:List Int) (a2:Int) (d0:Nat → Option (Bool ⊕ Unit)):Nat → Option (Bool ⊕ Unit)
  | b0=>(if b0 < a0.length then (a0[b0]?).bind fun c0=>(if c0 < 0 then some (.inl false) else (if a2 < c0 then some (.inl false) else d0 (b0 + 1))) else some (.inr ()))
def wardmoteref16_within_p (n:Nat) (a0:List Int) (a1:Int) (a2:Int):Option Bool:=
  thn (loopF (wardmoteref16_within_l1 n a0 a2) n 0) (fun _=>some (decide (((a0.length:Nat):Int) = a1)))
theorem wardmoteref16_within_c (n:Nat) (L:List Nat) (w:World) (_hL:∀ b ∈ L,b < w.heap.size) (a0:List Int) {v0_0:Value} (h0_0:Rep.R w L [v0_0] a0) (a1:Int) (a2:Int)  {r:Bool} (h:wardmoteref16_within_p n a0 a1 a2 = some r) :
    Calls Tryz.prog 121 #[v0_0,vI a1,vI a2] w (Gives w fun _ u=>u = .bool r):=by
 unfold wardmoteref16_within_p at h
 have hS0:=AK w
 refine AM Tryz.func121 rfl rfl rfl (fun _ cs0 hb0=>?_)
 refine Ae<|Ag rfl<|Aa<|Ak<|Ae<|Ag rfl<|Aa<|AB ?_
 obtain ⟨I0,B0,g0⟩:=thn_in h
 refine Bp (α:=Nat) (fun b0=>[(0,v0_0),(1,vI a1),(2,vI a2),(7,vI ((b0:Nat):Int))]) (fun b0 j0=>St w j0 []∧Tr w [] j0 []) (fun b0=>b0) 0 B0 ⟨rfl,rfl,rfl,rfl,trivial⟩ ⟨hS0,AN _ _⟩ ?_
 rintro F0 b0 j0 y0 ⟨c0,z0⟩ h
 unfold wardmoteref16_within_l1 at h
 try dsimp only at h
 refine Ak<|Ae<|Ac rfl<|Ac rfl ?_
 have d0:=Ax h0_0 c0
 have H0:a0.length ≤ 281474976710656:=AZ d0
 refine Ab (Bj (xs:=a0) Tryz.underlying42 rfl d0)<|Ab (BA (i:=b0) (j:=a0.length) rfl rfl)<|Aa<|AW rfl h (fun t0 h=>?_) (fun t0 h=>?_)
 refine Ao<|Ak<|AB<|Ae<|Ac rfl<|Ac rfl ?_
 obtain ⟨k0,D0,h⟩:=bi h
 obtain ⟨E0,G0,p0,q0,x0,C0,s0⟩:=Bb d0 D0
 have A0:x0 = [vI k0]:=C0; subst A0
 refine Ab (Be 1 b0 rfl p0 rfl rfl q0)<|AS rfl (s0 0 _ rfl)<|Ab (BF (i:=k0) (j:=0) rfl rfl)<|Ac rfl<|Bi (s:=19) rfl h (fun u0 h=>?_) (fun u0 h=>?_)
 refine Af<|Af<|Af<|Af<|Af<|Af<|AU rfl rfl<|Aa<|AY rfl<|Ae<|Ag rfl<|Aa ?_
 have h:=thn_inl h g0
 refine Am rfl<|AJ hb0 Tryz.func121 rfl rfl ?_
 cases h
 exact c0.gv
 refine Ap (Ai rfl)<|Ap (Ai rfl)<|Ap (Be 1 b0 rfl p0 rfl rfl q0)<|Ap (AA rfl (s0 0 _ rfl))<|Ap (Ai rfl)<|Ap (FV.gtr (i:=k0) (j:=a2) rfl rfl)<|AO rfl rfl<|Aa<|AW rfl h (fun v0 h=>?_) (fun v0 h=>?_)
 refine Ae<|Ag rfl<|Aa ?_
 have h:=thn_inl h g0
 refine Am rfl<|AJ hb0 Tryz.func121 rfl rfl ?_
 cases h
 exact c0.gv
 refine Ao<|AF<|Aw<|Ac rfl<|Ab (Bu (i:=b0) (j:=1) rfl rfl (by omega))<|Ag rfl<|Aa ?_
 exact y0 (b0 + 1) _ _ ⟨rfl,rfl,rfl,rfl,trivial⟩ ⟨c0,z0⟩ h
 refine Bd rfl ?_
 have h:=thn_inr h g0
 try dsimp only at h
 refine Ae<|Ac rfl<|Ab (Bj (xs:=a0) Tryz.underlying42 rfl d0)<|Ac rfl<|Ab (FV.eql (i:=((a0.length:Nat):Int)) (j:=a1) rfl rfl)<|Ag rfl<|Aa<|Am rfl<|AJ hb0 Tryz.func121 rfl rfl ?_
 cases h
 exact c0.gv
theorem body120:bodyB Tryz.prog 120 = true:=by kernel_rfl
theorem body121:bodyB Tryz.prog 121 = true:=by kernel_rfl
def wardmoteref16_right_p (n:Nat) (a0:TRoll) (a1:TUnit):Option Bool:=
  (wardmoteref16_named_p n a1.fName).bind fun b0=>(if b0 = true then (if a1.fPeople < 0 then some false else (if 1000000000 < a1.fPeople then some false else (wardmoteref16_within_p n a1.fGroups a0.fGroups a1.fPeople).bind fun c0=>(if c0 = true then (wardmoteref16_within_p n a1.fVotes a0.fParties (1000000000:Int)).bind fun d0=>(if d0 = true then (wardmoteref16_within_p n a1.fParents a0.fLevels (63:Int)).bind fun g0=>(if g0 = true then (if a1.fWater = true then (if a1.fPeople = 0 then (wardmoteref16_within_p n a1.fVotes a0.fParties (0:Int)).bind fun j0=>(if j0 = true then (wardmoteref16_within_p n a1.fParents a0.fLevels (0:Int)).bind fun k0=>some k0 else some false) else some false) else some true) else some false) else some false) else some false))) else some false)
theorem wardmoteref16_right_c (n:Nat) (L:List Nat) (w:World) (hL:∀ b ∈ L,b < w.heap.size) (a0:TRoll) {v0_3:Value} (h0_3:Rep.R w L [v0_3] a0.fUnits) (a1:TUnit) {v1_2:Value} (h1_2:Rep.R w L [v1_2] a1.fGroups) {v1_3:Value} (h1_3:Rep.R w L [v1_3] a1.fVotes) {v1_4:Value} (h1_4:Rep.R w L [v1_4] a1.fParents)  {r:Bool} (h:wardmoteref16_right_p n a0 a1 = some r) :
    Calls Tryz.prog 99 #[.agg #[vI a0.fGroups,vI a0.fParties,vI a0.fLevels,v0_3],.agg #[.string a1.fName,vI a1.fPeople,v1_2,v1_3,v1_4,.bool a1.fWater]] w (Gives w fun _ u=>u = .bool r):=by
 unfold wardmoteref16_right_p at h
 have hS0:=AK w
 refine AM Tryz.func99 rfl rfl rfl (fun _ cs0 hb0=>?_)
 refine Ae<|Az .plain rfl (AI hS0 rfl rfl) (fun w2 b5 hS3 hT4=>?_)
 refine Az .plain rfl (AI hS3 rfl rfl) (fun w7 H0 hS8 hT9=>?_)
 refine Ag rfl<|Aa<|Ak<|Ae<|AH 0 rfl<|AS rfl ((hS8.memA .hd) 0 _ rfl) ?_
 obtain ⟨B0,u0,h⟩:=bi h
 refine BE (.bool B0) body120 rfl (e1 rfl) (fun w9 hw9=>wardmoteref16_named_c n _ w9 (hS8.hL0 hL hw9) a1.fName u0) rfl<|Ab (Ba rfl)<|Ac rfl<|RG.ifnb (s:=9) rfl h (fun b0 h=>?_) (fun b0 h=>?_)
 refine BB 1 rfl<|Ap (AA rfl ((hS8.memA .hd) 1 _ rfl))<|Ap (BF (i:=a1.fPeople) (j:=0) rfl rfl)<|AO rfl rfl<|Ac rfl<|Bi (s:=14) rfl h (fun c0 h=>?_) (fun c0 h=>?_)
 refine Af<|Af<|Af<|AU rfl rfl<|Aa<|AY rfl<|Ae<|Ag rfl<|Aa<|Am rfl<|AJ hb0 Tryz.func99 rfl rfl ?_
 cases h
 exact hS8.gv
 refine BB 1 rfl<|Ap (AA rfl ((hS8.memA .hd) 1 _ rfl))<|Ap (FV.gtr (i:=a1.fPeople) (j:=1000000000) rfl rfl)<|AO rfl rfl<|Aa<|AW rfl h (fun d0 h=>?_) (fun d0 h=>?_)
 refine Ae<|Ag rfl<|Aa<|Am rfl<|AJ hb0 Tryz.func99 rfl rfl ?_
 cases h
 exact hS8.gv
 refine Ao<|Ak<|Ae<|AH 2 rfl<|AS rfl ((hS8.memA .hd) 2 _ rfl)<|AH 0 rfl<|AS rfl ((hS8.memA (.tl .hd)) 0 _ rfl)<|AH 1 rfl<|AS rfl ((hS8.memA .hd) 1 _ rfl) ?_
 obtain ⟨C0,v0,h⟩:=bi h
 refine BE (.bool C0) body121 rfl (e3 rfl rfl rfl) (fun w9 hw9=>wardmoteref16_within_c n _ w9 (hS8.hL0 hL hw9) a1.fGroups (hS8.k0 h1_2 hw9) a0.fGroups a1.fPeople v0) rfl<|Ab (Ba rfl)<|Ac rfl<|RG.ifnb (s:=27) rfl h (fun g0 h=>?_) (fun g0 h=>?_)
 refine BB 3 rfl<|Ap (AA rfl ((hS8.memA .hd) 3 _ rfl))<|BB 1 rfl<|Ap (AA rfl ((hS8.memA (.tl .hd)) 1 _ rfl)) ?_
 obtain ⟨D0,x0,h⟩:=bi h
 refine RG.callq' (v:=.bool D0) (fst:=[]) (cap:=[]) (.yes rfl rfl) body121 rfl (e3 rfl rfl rfl) (fun w9 hw9=>wardmoteref16_within_c n _ w9 (hS8.hL0 hL hw9) a1.fVotes (hS8.k0 h1_3 hw9) a0.fParties (1000000000:Int) x0) rfl<|Ap (Ba rfl)<|AO rfl rfl<|Ac rfl<|RG.ifnb (s:=35) rfl h (fun j0 h=>?_) (fun j0 h=>?_)
 refine BB 4 rfl<|Ap (AA rfl ((hS8.memA .hd) 4 _ rfl))<|BB 2 rfl<|Ap (AA rfl ((hS8.memA (.tl .hd)) 2 _ rfl)) ?_
 obtain ⟨E0,y0,h⟩:=bi h
 refine RG.callq' (v:=.bool E0) (fst:=[]) (cap:=[]) (.yes rfl rfl) body121 rfl (e3 rfl rfl rfl) (fun w9 hw9=>wardmoteref16_within_c n _ w9 (hS8.hL0 hL hw9) a1.fParents (hS8.k0 h1_4 hw9) a0.fLevels (63:Int) y0) rfl<|Ap (Ba rfl)<|AO rfl rfl<|Aa<|BS rfl h (fun p0 h=>?_) (fun p0 h=>?_)
 refine Ao<|Ak<|Ae<|AH 5 rfl<|AS rfl ((hS8.memA .hd) 5 _ rfl)<|Aa<|MX.ifb rfl h (fun q0 h=>?_) (fun q0 h=>?_)
 refine Ae<|AH 1 rfl<|AS rfl ((hS8.memA .hd) 1 _ rfl)<|Ab (FV.eql (i:=a1.fPeople) (j:=0) rfl rfl)<|Ac rfl<|Bi (s:=48) rfl h (fun s0 h=>?_) (fun s0 h=>?_)
 refine BB 3 rfl<|Ap (AA rfl ((hS8.memA .hd) 3 _ rfl))<|BB 1 rfl<|Ap (AA rfl ((hS8.memA (.tl .hd)) 1 _ rfl)) ?_
 obtain ⟨F0,z0,h⟩:=bi h
 refine RG.callq' (v:=.bool F0) (fst:=[]) (cap:=[]) (.yes rfl rfl) body121 rfl (e3 rfl rfl rfl) (fun w9 hw9=>wardmoteref16_within_c n _ w9 (hS8.hL0 hL hw9) a1.fVotes (hS8.k0 h1_3 hw9) a0.fParties (0:Int) z0) rfl<|AU rfl rfl<|Ac rfl<|RG.ifb (s:=55) rfl h (fun t0 h=>?_) (fun t0 h=>?_)
 refine BB 4 rfl<|Ap (AA rfl ((hS8.memA .hd) 4 _ rfl))<|BB 2 rfl<|Ap (AA rfl ((hS8.memA (.tl .hd)) 2 _ rfl)) ?_
 obtain ⟨G0,A0,h⟩:=bi h
 refine RG.callq' (v:=.bool G0) (fst:=[]) (cap:=[]) (.yes rfl rfl) body121 rfl (e3 rfl rfl rfl) (fun w9 hw9=>wardmoteref16_within_c n _ w9 (hS8.hL0 hL hw9) a1.fParents (hS8.k0 h1_4 hw9) a0.fLevels (0:Int) A0) rfl<|AU rfl rfl<|Ag rfl<|Aa<|Am rfl<|AJ hb0 Tryz.func99 rfl rfl ?_
 cases h
 exact hS8.gv
 refine Af<|Af<|Af<|Af<|Af<|AO rfl rfl<|Ag rfl<|Aa<|Am rfl<|AJ hb0 Tryz.func99 rfl rfl ?_
 cases h
 exact hS8.gv
 refine Af<|Af<|Af<|Af<|Af<|AO rfl rfl<|Ac rfl<|Af<|Af<|Af<|Af<|Af<|AO rfl rfl<|Ag rfl<|Aa<|Am rfl<|AJ hb0 Tryz.func99 rfl rfl ?_
 cases h
 exact hS8.gv
 refine Ao<|Ae<|Ag rfl<|Aa<|Am rfl<|AJ hb0 Tryz.func99 rfl rfl ?_
 cases h
 exact hS8.gv
 refine Ae<|Ag rfl<|Aa<|Am rfl<|AJ hb0 Tryz.func99 rfl rfl ?_
 cases h
 exact hS8.gv
 refine Af<|Af<|Af<|Af<|Af<|Af<|AU rfl rfl<|Aa<|AY rfl<|Ae<|Ag rfl<|Aa<|Am rfl<|AJ hb0 Tryz.func99 rfl rfl ?_
 cases h
 exact hS8.gv
 refine Af<|Af<|Af<|Af<|Af<|Af<|AU rfl rfl<|Ac rfl<|Af<|Af<|Af<|Af<|Af<|Af<|AU rfl rfl<|Aa<|AY rfl<|Ae<|Ag rfl<|Aa<|Am rfl<|AJ hb0 Tryz.func99 rfl rfl ?_
 cases h
 exact hS8.gv
 refine Af<|Af<|Af<|AU rfl rfl<|Ac rfl<|Af<|Af<|Af<|AU rfl rfl<|Aa<|AY rfl<|Ae<|Ag rfl<|Aa<|Am rfl<|AJ hb0 Tryz.func99 rfl rfl ?_
 cases h
 exact hS8.gv
def tb76_8:List (Nat × Nat × Nat):=[(0,144115188075855872,2),(0,288230376151711744,2),(2,576460752303423488,288230376151711744),(0,1152921504606846976,8),(12,2305843009213693952,1729382256910270464),(16,4611686018427387904,2305843009213693952),(33,9223372036854775808,4755801206503243776),(64,18446744073709551616,9223372036854775808)]
def tb76_13:List (Nat × Nat × Nat):=[(0,1180591620717411303424,2),(1,2361183241434822606848,1180591620717411303424),(0,4722366482869645213696,16),(6,9444732965739290427392,7083549724304467820544),(8,18889465931478580854784,9444732965739290427392),(16,37778931862957161709568,18889465931478580854784),(0,75557863725914323419136,2),(64,151115727451828646838272,75557863725914323419136),(0,302231454903657293676544,8),(384,604462909807314587353088,453347182355485940514816),(512,1208925819614629174706176,604462909807314587353088),(1024,2417851639229258349412352,1208925819614629174706176),(2080,4835703278458516698824704,2455630571092215511121920),(4096,9671406556917033397649408,4835703278458516698824704),(8192,19342813113834066795298816,9671406556917033397649410),(24576,38685626227668133590597632,29014219670751100192948224),(8192,77371252455336267181195264,9671406556917033397649424),(106496,154742504910672534362390528,125728285239921434169442304),(139264,309485009821345068724781056,164413911467589567760039936),(270336,618970019642690137449562112,319156416378262102122430464),(532480,1237940039285380274899124224,628641426199607170847211520),(1048576,2475880078570760549798248448,1237940039285380274899124226),(3145728,4951760157141521099596496896,3713820117856140824697372672),(1048576,9903520314283042199192993792,1237940039285380274899124232),(13631488,19807040628566084398385987584,16093220510709943573688614912),(17825792,39614081257132168796771975168,21044980667851464673285111808),(34603008,79228162514264337593543950336,40852021296417549071671099392),(68157440,158456325028528675187087900672,80466102553549717868443074560),(135274496,316912650057057350374175801344,159703936474370972495384674304),(268443648,633825300114114700748351602688,316922321463614267407573450752)]
theorem body99:bodyB Tryz.prog 99 = true:=by kernel_rfl
def wardmoteref16_CheckRoll_l1 (_n:Nat) (j0:Nat) (a0:TRoll) (d0:TUnit) (c0:Nat → Option ((Int ⊕ Unit) ⊕ Unit)):Nat → Option ((Int ⊕ Unit) ⊕ Unit)
  | b0=>(if b0 < j0 then (a0.fUnits[b0]?).bind fun g0=>(if g0.fName = d0.fName then some (.inl (.inl (161:Int))) else (if g0.fWater = true then (if d0.fWater = true then c0 (b0 + 1) else some (.inl (.inl (161:Int)))) else c0 (b0 + 1))) else some (.inr ()))
def wardmoteref16_CheckRoll_l2 (n:Nat) (a0:TRoll) (d0:Nat → Option (Int ⊕ Unit)):Nat → Option (Int ⊕ Unit)
  | b0=>(if b0 < a0.fUnits.length then (a0.fUnits[b0]?).bind fun c0=>(wardmoteref16_right_p n a0 c0).bind fun g0=>(if g0 = true then thn (loopF (wardmoteref16_CheckRoll_l1 n b0 a0 c0) n 0) (fun _=>d0 (b0 + 1)) else some (.inl (161:Int))) else some (.inr ()))
def wardmoteref16_CheckRoll_p (n:Nat) (a0:TRoll):Option Int:=
  jn (fun c0=>(if c0 = true then some (161:Int) else (if a0.fUnits.length < 1 then some (161:Int) else (if 64 < a0.fUnits.length then some (161:Int) else (a0.fUnits[0]?).bind fun d0=>(if d0.fWater = true then some (161:Int) else thn (loopF (wardmoteref16_CheckRoll_l2 n a0) n 0) (fun _=>some (0:Int))))))) (fun b0=>(if a0.fGroups < 0 then b0 true else (if 6 < a0.fGroups then b0 true else (if a0.fParties < 0 then b0 true else (if 12 < a0.fParties then b0 true else (if a0.fLevels < 0 then b0 true else b0 (decide (3 < a0.fLevels))))))))
theorem wardmoteref16_CheckRoll_c (n:Nat) (L:List Nat) (w:World) (hL:∀ b ∈ L,b < w.heap.size) (a0:TRoll) {v0_3:Value} (h0_3:Rep.R w L [v0_3] a0.fUnits)  {r:Int} (h:wardmoteref16_CheckRoll_p n a0 = some r) :
    Calls Tryz.prog 76 #[.agg #[vI a0.fGroups,vI a0.fParties,vI a0.fLevels,v0_3]] w (Gives w fun _ u=>u = vI r):=by
 unfold wardmoteref16_CheckRoll_p at h
 have hS0:=AK w
 refine AM Tryz.func76 rfl rfl rfl (fun _ cs0 hb0=>?_)
 refine Ae<|Az .plain rfl (AI hS0 rfl rfl) (fun w2 b5 hS3 hT4=>?_)
 refine Ag rfl<|Aa<|Ak<|Ak<|MX.join (α:=Bool) (fun v0=>[(1,vP b5),(32,.bool v0)]) (fun v0 z0=>St w z0 [.cells b5 [vI a0.fGroups,vI a0.fParties,vI a0.fLevels,v0_3] 41]∧Tr w2 [.cells b5 [vI a0.fGroups,vI a0.fParties,vI a0.fLevels,v0_3] 41] z0 [.cells b5 [vI a0.fGroups,vI a0.fParties,vI a0.fLevels,v0_3] 41]) (fun v0=>v0) h ?_ ?_
 rintro v0 z0 ⟨q0,u2⟩ h
 try dsimp only at h
 refine MX.ifb rfl h (fun U0 h=>?_) (fun U0 h=>?_)
 refine Ae<|Ag rfl<|Aa<|Am rfl<|AJ hb0 Tryz.func76 rfl rfl ?_
 cases h
 exact q0.gv
 refine Ao<|Ak<|Ae<|AH 3 rfl<|AS rfl ((q0.memA .hd) 3 _ rfl) ?_
 have y0:=Ax h0_3 q0
 have v2:a0.fUnits.length ≤ 281474976710656:=AZ y0
 refine Ab (Bj (xs:=a0.fUnits) Tryz.underlying39 rfl y0)<|Ab (BA (i:=a0.fUnits.length) (j:=1) rfl rfl)<|Ac rfl<|Bi (s:=37) rfl h (fun W0 h=>?_) (fun W0 h=>?_)
 refine Af<|Af<|Af<|Af<|AU rfl rfl<|Ac rfl<|Af<|Af<|Af<|Af<|Af<|AU rfl rfl<|Aa<|AY rfl<|Ae<|Ag rfl<|Aa<|Am rfl<|AJ hb0 Tryz.func76 rfl rfl ?_
 cases h
 exact q0.gv
 refine BB 3 rfl<|Ap (AA rfl ((q0.memA .hd) 3 _ rfl))<|Ap (Bj (xs:=a0.fUnits) Tryz.underlying39 rfl y0)<|Ap (FV.gtrN (i:=a0.fUnits.length) (j:=64) rfl rfl)<|AO rfl rfl<|Ac rfl<|Bi (s:=43) rfl h (fun X0 h=>?_) (fun X0 h=>?_)
 refine Af<|Af<|Af<|Af<|Af<|AU rfl rfl<|Aa<|AY rfl<|Ae<|Ag rfl<|Aa<|Am rfl<|AJ hb0 Tryz.func76 rfl rfl ?_
 cases h
 exact q0.gv
 refine BB 3 rfl<|Ap (AA rfl ((q0.memA .hd) 3 _ rfl)) ?_
 obtain ⟨Z2,M1,h⟩:=bi h
 obtain ⟨X1,j2,x1,z1,t2,K1,B1⟩:=Bb y0 M1
 obtain ⟨W2,X2,Y2,rfl,D2,E2,F2⟩:=op_TUnit K1
 refine Ap (Be 6 0 rfl x1 rfl rfl z1)<|BB 5 rfl<|Ap (AA rfl (B1 5 _ rfl))<|AO rfl rfl<|Aa<|MX.ifb rfl h (fun q1 h=>?_) (fun q1 h=>?_)
 refine Ae<|Ag rfl<|Aa<|Am rfl<|AJ hb0 Tryz.func76 rfl rfl ?_
 cases h
 exact q0.gv
 refine Ao<|Ak<|Ae<|Ag rfl<|Aa<|AB ?_
 obtain ⟨G2,C1,x0⟩:=thn_in h
 refine Bp (α:=Nat) (fun d0=>[(1,vP b5),(3,vI ((d0:Nat):Int))]) (fun d0 A0=>St w A0 [.cells b5 [vI a0.fGroups,vI a0.fParties,vI a0.fLevels,v0_3] 41]∧Tr z0 [.cells b5 [vI a0.fGroups,vI a0.fParties,vI a0.fLevels,v0_3] 41] A0 [.cells b5 [vI a0.fGroups,vI a0.fParties,vI a0.fLevels,v0_3] 41]) (fun d0=>d0) 0 C1 ⟨rfl,rfl,trivial⟩ ⟨q0,AN _ _⟩ ?_
 rintro b2 d0 A0 s1 ⟨g0,u1⟩ h
 unfold wardmoteref16_CheckRoll_l2 at h
 try dsimp only at h
 refine Ak<|Ae<|Ac rfl<|AH 3 rfl<|AS rfl ((g0.memA .hd) 3 _ rfl) ?_
 have J0:=Ax h0_3 g0
 refine Ab (Bj (xs:=a0.fUnits) Tryz.underlying39 rfl J0)<|Ab (BA (i:=d0) (j:=a0.fUnits.length) rfl rfl)<|Aa<|AW rfl h (fun R0 h=>?_) (fun R0 h=>?_)
 refine Ao<|Ak<|AB<|Ak<|Ak<|Bm 8 tb76_8 (by kernel_rfl) (by kernel_rfl) (by kernel_rfl) (fun s0 t0=>?_)
 refine AT 0 1 192 s0 rfl t0 (AG rfl (g0.memA .hd)) rfl<|Ah 1 3 s0 rfl t0 (fun _=>Bt 3 rfl) rfl<|AT 2 7 240 s0 rfl t0 (AA rfl ((g0.memA .hd) 3 _ rfl)) rfl<|Ah 3 15 s0 rfl t0 (fun _=>Ai rfl) rfl ?_
 obtain ⟨R1,Q0,h⟩:=bi h
 obtain ⟨V1,d2,v1,y1,p2,E1,A1⟩:=Bb J0 Q0
 obtain ⟨I2,J2,K2,rfl,F1,G1,H1⟩:=op_TUnit E1
 refine Ah 4 31 s0 rfl t0 (fun _=>Be 6 d0 rfl v1 rfl rfl y1) rfl<|AT 5 63 192 s0 rfl t0 (AG rfl A1) rfl ?_
 obtain ⟨U1,Q1,h⟩:=bi h
 refine RD.cq 6 127 128 (.bool U1) s0 rfl t0 body99 rfl (e2 rfl rfl) (fun w9 hw9=>wardmoteref16_right_c n _ w9 (g0.hL0 hL hw9) a0 (g0.k0 h0_3 hw9) R1 (g0.kd F1 hw9) (g0.kd G1 hw9) (g0.kd H1 hw9) Q1) rfl<|Ah 7 255 s0 rfl t0 (fun _=>Ba rfl) rfl<|Bc (doneD_ok s0 (by kernel_rfl))<|BS rfl h (fun V0 h=>?_) (fun V0 h=>?_)
 refine Ao<|Ae<|Ag rfl<|Aa<|AB ?_
 obtain ⟨H2,D1,C0⟩:=thn_in h
 refine Bp (α:=Nat) (fun j0=>[(1,vP b5),(3,vI ((d0:Nat):Int)),(4,vI ((j0:Nat):Int))]) (fun j0 D0=>St w D0 [.cells b5 [vI a0.fGroups,vI a0.fParties,vI a0.fLevels,v0_3] 41]∧Tr A0 [.cells b5 [vI a0.fGroups,vI a0.fParties,vI a0.fLevels,v0_3] 41] D0 [.cells b5 [vI a0.fGroups,vI a0.fParties,vI a0.fLevels,v0_3] 41]) (fun j0=>j0) 0 D1 ⟨rfl,rfl,rfl,trivial⟩ ⟨g0,AN _ _⟩ ?_
 rintro c2 j0 D0 E0 ⟨p0,B0⟩ h
 unfold wardmoteref16_CheckRoll_l1 at h
 try dsimp only at h
 refine Ak<|Ae<|Ac rfl<|Ac rfl<|Ab (BA (i:=j0) (j:=d0) rfl rfl)<|Aa<|AW rfl h (fun Y0 h=>?_) (fun Y0 h=>?_)
 refine Ao<|Ak<|AB<|Ak<|Bm 30 tb76_13 (by kernel_rfl) (by kernel_rfl) (by kernel_rfl) (fun b0 c0=>?_)
 refine Ah 0 1 b0 rfl c0 (fun _=>Bt 3 rfl) rfl<|AT 1 3 1073737784 b0 rfl c0 (AA rfl ((p0.memA .hd) 3 _ rfl)) rfl<|Ah 2 7 b0 rfl c0 (fun _=>Ai rfl) rfl ?_
 obtain ⟨b3,P1,h⟩:=bi h
 have M0:=Ax h0_3 p0
 obtain ⟨W1,g2,F0,H0,q2,I1,K0⟩:=Bb M0 P1
 obtain ⟨M2,P2,Q2,rfl,x2,y2,z2⟩:=op_TUnit I1
 refine Ah 3 15 b0 rfl c0 (fun _=>Be 6 j0 rfl F0 rfl rfl H0) rfl<|Ah 4 31 b0 rfl c0 (fun _=>Bt 0 rfl) rfl<|AT 5 63 1073737728 b0 rfl c0 (AA rfl (K0 0 _ rfl)) rfl<|Ah 6 127 b0 rfl c0 (fun _=>Bt 3 rfl) rfl<|AT 7 255 1073741312 b0 rfl c0 (AA rfl ((p0.memA .hd) 3 _ rfl)) rfl<|Ah 8 511 b0 rfl c0 (fun _=>Ai rfl) rfl ?_
 obtain ⟨Y1,k2,G0,I0,s2,J1,P0⟩:=Bb M0 Q0
 obtain ⟨R2,U2,V2,rfl,A2,B2,C2⟩:=op_TUnit J1
 refine Ah 9 1023 b0 rfl c0 (fun _=>Be 6 d0 rfl G0 rfl rfl I0) rfl<|Ah 10 2047 b0 rfl c0 (fun _=>Bt 0 rfl) rfl<|AT 11 4095 1073737728 b0 rfl c0 (AA rfl (P0 0 _ rfl)) rfl<|Ah 12 8191 b0 rfl c0 (fun _=>FV.eqlS rfl rfl) rfl<|Ah 13 16383 b0 rfl c0 (fun _=>Ai rfl) rfl<|RD.ifd (s:=83) rfl h (fun Z0 h=>?_) (fun Z0 h=>?_)
 refine By 536870911 1 [(14,84),(15,85),(16,86),(17,87),(18,88),(19,89),(20,90),(21,91),(22,92),(23,93),(24,94),(25,95),(26,96),(27,97),(28,98)] (F:=[(83,true)]) (U:=[]) b0 c0 (.cons rfl .nil) .nil ?_
 dsimp only [offS,List.map]
 refine Ah 29 1073741823 b0 rfl c0 (fun _=>Bl rfl rfl) rfl<|Bc (doneD_ok b0 (by kernel_rfl))<|AY rfl<|Ae<|Ag rfl<|Aa ?_
 have h:=thn_inl h C0
 have h:=thn_inl h x0
 refine Am rfl<|AJ hb0 Tryz.func76 rfl rfl ?_
 cases h
 exact p0.gv
 refine BJ 14 32767 b0 rfl c0 (.yes rfl rfl) (fun _=>Bt 3 rfl) rfl<|BM (i:=15) (m' :=65535) (W:=1073610752) (takeC_ok b0 (by kernel_rfl)) rfl c0 (.yes rfl rfl) (AA rfl ((p0.memA .hd) 3 _ rfl)) rfl<|BJ 16 131071 b0 rfl c0 (.yes rfl rfl) (fun _=>Ai rfl) rfl<|BJ 17 262143 b0 rfl c0 (.yes rfl rfl) (fun _=>Be 6 j0 rfl F0 rfl rfl H0) rfl<|BJ 18 524287 b0 rfl c0 (.yes rfl rfl) (fun _=>Bt 5 rfl) rfl<|BM (i:=19) (m' :=1048575) (W:=1072693248) (takeC_ok b0 (by kernel_rfl)) rfl c0 (.yes rfl rfl) (AA rfl (K0 5 _ rfl)) rfl<|BJ 20 2097151 b0 rfl c0 (.yes rfl rfl) (fun _=>Ai rfl) rfl<|RD.ifb (s:=90) rfl h (fun b1 h=>?_) (fun b1 h=>?_)
 refine BJ 21 4194303 b0 rfl c0 (.yes rfl rfl) (fun _=>Bt 3 rfl) rfl<|BM (i:=22) (m' :=8388607) (W:=1056964608) (takeC_ok b0 (by kernel_rfl)) rfl c0 (.yes rfl rfl) (AA rfl ((p0.memA .hd) 3 _ rfl)) rfl<|BJ 23 16777215 b0 rfl c0 (.yes rfl rfl) (fun _=>Ai rfl) rfl<|BJ 24 33554431 b0 rfl c0 (.yes rfl rfl) (fun _=>Be 6 d0 rfl G0 rfl rfl I0) rfl<|BJ 25 67108863 b0 rfl c0 (.yes rfl rfl) (fun _=>Bt 5 rfl) rfl<|BM (i:=26) (m' :=134217727) (W:=939524096) (takeC_ok b0 (by kernel_rfl)) rfl c0 (.yes rfl rfl) (AA rfl (P0 5 _ rfl)) rfl<|BJ 27 268435455 b0 rfl c0 (.yes rfl rfl) (fun _=>Ba rfl) rfl<|BJ 28 536870911 b0 rfl c0 (.yes rfl rfl) (fun _=>Bl rfl rfl) rfl<|Ah 29 1073741823 b0 rfl c0 (fun _=>Bn rfl rfl) rfl<|Bc (doneD_ok b0 (by kernel_rfl))<|BS rfl h (fun c1 h=>?_) (fun c1 h=>?_)
 refine Ao<|AF<|Aw<|Ac rfl<|Ab (Bu (i:=j0) (j:=1) rfl rfl (by omega))<|Ag rfl<|Aa ?_
 exact E0 (j0 + 1) _ _ ⟨rfl,rfl,rfl,trivial⟩ ⟨p0,B0⟩ h
 refine Ae<|Ag rfl<|Aa ?_
 have h:=thn_inl h C0
 have h:=thn_inl h x0
 refine Am rfl<|AJ hb0 Tryz.func76 rfl rfl ?_
 cases h
 exact p0.gv
 refine By 268435455 2 [(21,91),(22,92),(23,93),(24,94),(25,95),(26,96),(27,97)] (F:=[(90,false)]) (U:=[]) b0 c0 (.cons rfl .nil) .nil ?_
 dsimp only [offS,List.map]
 refine BJ 28 536870911 b0 rfl c0 (.yes rfl rfl) (fun _=>Bn rfl rfl) rfl<|Ah 29 1073741823 b0 rfl c0 (fun _=>Bn rfl rfl) rfl<|Bc (doneD_ok b0 (by kernel_rfl))<|BC rfl<|Ao<|AF<|Aw<|Ac rfl<|Ab (Bu (i:=j0) (j:=1) rfl rfl (by omega))<|Ag rfl<|Aa ?_
 exact E0 (j0 + 1) _ _ ⟨rfl,rfl,rfl,trivial⟩ ⟨p0,B0⟩ h
 refine Bd rfl ?_
 have h:=thn_inr h C0
 try dsimp only at h
 refine AF<|Aw<|Ac rfl<|Ab (Bu (i:=d0) (j:=1) rfl rfl (by omega))<|Ag rfl<|Aa ?_
 exact s1 (d0 + 1) _ _ ⟨rfl,rfl,trivial⟩ ⟨p0,(Tt u1 B0)⟩ h
 refine Ae<|Ag rfl<|Aa ?_
 have h:=thn_inl h x0
 refine Am rfl<|AJ hb0 Tryz.func76 rfl rfl ?_
 cases h
 exact g0.gv
 refine Bd rfl ?_
 have h:=thn_inr h x0
 try dsimp only at h
 refine Ae<|Ag rfl<|Aa<|Am rfl<|AJ hb0 Tryz.func76 rfl rfl ?_
 cases h
 exact g0.gv
 intro Z1 u0 h
 try dsimp only at h
 refine Aw<|AH 0 rfl<|AS rfl ((hS3.memA .hd) 0 _ rfl)<|Ab (BF (i:=a0.fGroups) (j:=0) rfl rfl)<|Ac rfl<|Bi (s:=8) rfl h (fun d1 h=>?_) (fun d1 h=>?_)
 refine Af<|Af<|Af<|AU rfl rfl<|Ac rfl<|Af<|Af<|Af<|AU rfl rfl<|Ac rfl<|Af<|Af<|Af<|AU rfl rfl<|Ac rfl<|Af<|Af<|Af<|AU rfl rfl<|Ac rfl<|Af<|Af<|Af<|AU rfl rfl ?_
 refine Aa ?_
 exact u0 true _ _ ⟨rfl,rfl,trivial⟩ ⟨hS3,AN _ _⟩ h
 refine BB 0 rfl<|Ap (AA rfl ((hS3.memA .hd) 0 _ rfl))<|Ap (FV.gtr (i:=a0.fGroups) (j:=6) rfl rfl)<|AO rfl rfl<|Ac rfl<|Bi (s:=13) rfl h (fun g1 h=>?_) (fun g1 h=>?_)
 refine Af<|Af<|Af<|AU rfl rfl<|Ac rfl<|Af<|Af<|Af<|AU rfl rfl<|Ac rfl<|Af<|Af<|Af<|AU rfl rfl<|Ac rfl<|Af<|Af<|Af<|AU rfl rfl<|Aa ?_
 exact u0 true _ _ ⟨rfl,rfl,trivial⟩ ⟨hS3,AN _ _⟩ h
 refine BB 1 rfl<|Ap (AA rfl ((hS3.memA .hd) 1 _ rfl))<|Ap (BF (i:=a0.fParties) (j:=0) rfl rfl)<|AO rfl rfl<|Ac rfl<|Bi (s:=18) rfl h (fun j1 h=>?_) (fun j1 h=>?_)
 refine Af<|Af<|Af<|AU rfl rfl<|Ac rfl<|Af<|Af<|Af<|AU rfl rfl<|Ac rfl<|Af<|Af<|Af<|AU rfl rfl<|Aa ?_
 exact u0 true _ _ ⟨rfl,rfl,trivial⟩ ⟨hS3,AN _ _⟩ h
 refine BB 1 rfl<|Ap (AA rfl ((hS3.memA .hd) 1 _ rfl))<|Ap (FV.gtr (i:=a0.fParties) (j:=12) rfl rfl)<|AO rfl rfl<|Ac rfl<|Bi (s:=23) rfl h (fun k1 h=>?_) (fun k1 h=>?_)
 refine Af<|Af<|Af<|AU rfl rfl<|Ac rfl<|Af<|Af<|Af<|AU rfl rfl<|Aa ?_
 exact u0 true _ _ ⟨rfl,rfl,trivial⟩ ⟨hS3,AN _ _⟩ h
 refine BB 2 rfl<|Ap (AA rfl ((hS3.memA .hd) 2 _ rfl))<|Ap (BF (i:=a0.fLevels) (j:=0) rfl rfl)<|AO rfl rfl<|Ac rfl<|Bi (s:=28) rfl h (fun p1 h=>?_) (fun p1 h=>?_)
 refine Af<|Af<|Af<|AU rfl rfl<|Aa ?_
 exact u0 true _ _ ⟨rfl,rfl,trivial⟩ ⟨hS3,AN _ _⟩ h
 refine BB 2 rfl<|Ap (AA rfl ((hS3.memA .hd) 2 _ rfl))<|Ap (FV.gtr (i:=a0.fLevels) (j:=3) rfl rfl)<|AO rfl rfl<|Aa ?_
 exact u0 (decide (3 < a0.fLevels)) _ _ ⟨rfl,rfl,trivial⟩ ⟨hS3,AN _ _⟩ h
def wardmoteref16_Lands_l1 (_n:Nat) (a0:TRoll) (c0:Nat → Option Nat):Nat → Option Nat
  | b0=>(if b0 < a0.fUnits.length then (a0.fUnits[b0]?).bind fun d0=>(if d0.fWater = true then some b0 else c0 (b0 + 1)) else some b0)
def wardmoteref16_Lands_p (n:Nat) (a0:TRoll):Option Int:=
  jn (fun c0=>some ((c0:Nat):Int)) (fun b0=>Option.bind (loopF (wardmoteref16_Lands_l1 n a0) n 0) (b0))
theorem wardmoteref16_Lands_c (n:Nat) (L:List Nat) (w:World) (_hL:∀ b ∈ L,b < w.heap.size) (a0:TRoll) {v0_3:Value} (h0_3:Rep.R w L [v0_3] a0.fUnits)  {r:Int} (h:wardmoteref16_Lands_p n a0 = some r) :
    Calls Tryz.prog 122 #[.agg #[vI a0.fGroups,vI a0.fParties,vI a0.fLevels,v0_3]] w (Gives w fun _ u=>u = vI r):=by
 unfold wardmoteref16_Lands_p at h
 have hS0:=AK w
 refine AM Tryz.func122 rfl rfl rfl (fun _ cs0 hb0=>?_)
 refine Ae<|Az .plain rfl (AI hS0 rfl rfl) (fun w2 b5 hS3 hT4=>?_)
 refine Ag rfl<|Aa<|Ae<|Ag rfl<|Aa<|Ak<|AB<|MX.joinx (α:=Nat) (fun d0=>[(3,vI ((d0:Nat):Int))]) (fun d0 p0=>St w p0 []∧Tr w2 [.cells b5 [vI a0.fGroups,vI a0.fParties,vI a0.fLevels,v0_3] 41] p0 []) (fun d0=>d0) (id:=0) rfl h ?_ ?_
 rintro d0 p0 ⟨z0,Q0⟩ h
 try dsimp only at h
 refine Ae<|Ac rfl<|Ag rfl<|Aa<|Am rfl<|AJ hb0 Tryz.func122 rfl rfl ?_
 cases h
 exact z0.gv
 intro K0 q0 h
 try dsimp only at h
 obtain ⟨X0,F0,s0⟩:=bind_in2 h
 refine Bp (α:=Nat) (fun b0=>[(1,vP b5),(3,vI ((b0:Nat):Int))]) (fun b0 k0=>St w k0 [.cells b5 [vI a0.fGroups,vI a0.fParties,vI a0.fLevels,v0_3] 41]∧Tr w2 [.cells b5 [vI a0.fGroups,vI a0.fParties,vI a0.fLevels,v0_3] 41] k0 [.cells b5 [vI a0.fGroups,vI a0.fParties,vI a0.fLevels,v0_3] 41]) (fun b0=>b0) 0 F0 ⟨rfl,rfl,trivial⟩ ⟨hS3,AN _ _⟩ ?_
 rintro J0 b0 k0 v0 ⟨c0,g0⟩ h
 unfold wardmoteref16_Lands_l1 at h
 try dsimp only at h
 refine Ak<|Ae<|Ac rfl<|AH 3 rfl<|AS rfl ((c0.memA .hd) 3 _ rfl) ?_
 have j0:=Ax h0_3 c0
 have R0:a0.fUnits.length ≤ 281474976710656:=AZ j0
 refine Ab (Bj (xs:=a0.fUnits) Tryz.underlying39 rfl j0)<|Ab (BA (i:=b0) (j:=a0.fUnits.length) rfl rfl)<|Ac rfl<|Bi (s:=9) rfl h (fun t0 h=>?_) (fun t0 h=>?_)
 refine BB 3 rfl<|Ap (AA rfl ((c0.memA .hd) 3 _ rfl))<|Ap (Ai rfl) ?_
 obtain ⟨c1,H0,h⟩:=bi h
 obtain ⟨I0,M0,C0,D0,P0,G0,E0⟩:=Bb j0 H0
 obtain ⟨Y0,Z0,b1,rfl,U0,V0,W0⟩:=op_TUnit G0
 refine Ap (Be 6 b0 rfl C0 rfl rfl D0)<|BB 5 rfl<|Ap (AA rfl (E0 5 _ rfl))<|Ap (Ba rfl)<|AU rfl rfl<|Aa<|BS rfl h (fun u0 h=>?_) (fun u0 h=>?_)
 refine Bd rfl ?_
 have h:=s0 _ h
 try dsimp only at h
 obtain ⟨x0,A0⟩:=AD c0 .done
 exact q0 b0 _ _ ⟨rfl,trivial⟩ ⟨x0,(Tt g0 A0)⟩ h
 refine Ao<|AB<|Aw<|Ac rfl<|Ab (Bu (i:=b0) (j:=1) rfl rfl (by omega))<|Ag rfl<|Aa<|AF ?_
 exact v0 (b0 + 1) _ _ ⟨rfl,rfl,trivial⟩ ⟨c0,g0⟩ h
 refine Af<|Af<|Af<|Af<|Af<|Af<|Af<|AO rfl rfl<|Aa<|BC rfl<|Bd rfl ?_
 have h:=s0 _ h
 try dsimp only at h
 obtain ⟨y0,B0⟩:=AD c0 .done
 exact q0 b0 _ _ ⟨rfl,trivial⟩ ⟨y0,(Tt g0 B0)⟩ h
theorem body76:bodyB Tryz.prog 76 = true:=by kernel_rfl
theorem body122:bodyB Tryz.prog 122 = true:=by kernel_rfl
def wardmoteref16_Land_p (n:Nat) (a0:TRoll):Option (Int × Int):=
  (wardmoteref16_CheckRoll_p n a0).bind fun y6=>(if y6 = 0 then (wardmoteref16_Lands_p n a0).bind fun y8=>some (y8,(0:Int)) else some ((0:Int),y6))
theorem wardmoteref16_Land_c (n:Nat) (L:List Nat) (w:World) (hL:∀ b ∈ L,b < w.heap.size) (a0:TRoll) {v0_3:Value} (h0_3:Rep.R w L [v0_3] a0.fUnits)  {r:Int × Int} (h:wardmoteref16_Land_p n a0 = some r) :
    Calls Tryz.prog 100 #[.agg #[vI a0.fGroups,vI a0.fParties,vI a0.fLevels,v0_3]] w (Gives w fun _ u=>u = .tuple #[vI r.1,vI r.2]):=by
 unfold wardmoteref16_Land_p at h
 have hS0:=AK w
 refine AM Tryz.func100 rfl rfl rfl (fun _ cs0 hb0=>?_)
 refine Ae<|Az .plain rfl (AI hS0 rfl rfl) (fun w2 b5 hS3 hT4=>?_)
 refine Ag rfl<|Ag rfl<|Aa<|Ak<|Ae<|Ab (AG rfl (hS3.memA .hd)) ?_
 obtain ⟨y6,hy6,h⟩:=bi h
 refine BE (vI y6) body76 rfl (e1 rfl) (fun w9 hw9=>wardmoteref16_CheckRoll_c n _ w9 (hS3.hL0 hL hw9) a0 (hS3.k0 h0_3 hw9) hy6) rfl<|Ag rfl<|Aa<|Ae<|Ac rfl<|Ab (BO (i:=y6) (j:=0) rfl rfl)<|Aa<|BV rfl h (fun c7 h=>?_) (fun c7 h=>?_)
 refine Ao<|Ae<|Ab (AG rfl (hS3.memA .hd)) ?_
 obtain ⟨y8,hy8,h⟩:=bi h
 refine BE (vI y8) body122 rfl (e1 rfl) (fun w9 hw9=>wardmoteref16_Lands_c n _ w9 (hS3.hL0 hL hw9) a0 (hS3.k0 h0_3 hw9) hy8) rfl<|Ag rfl<|Ag rfl<|Aa<|Am rfl<|Ay hb0 Tryz.func100 rfl (.cons (.tmp rfl) (.cons (.tmp rfl) .nil)) rfl ?_
 cases h
 exact hS3.gv
 refine Ae<|Ac rfl<|Ag rfl<|Ag rfl<|Aa<|Am rfl<|Ay hb0 Tryz.func100 rfl (.cons (.tmp rfl) (.cons (.tmp rfl) .nil)) rfl ?_
 cases h
 exact hS3.gv
theorem body100:bodyB Tryz.prog 100 = true:=by kernel_rfl
def wardmoteref22_Land_p (n:Nat) (a0:TRoll):Option Int:=
  (wardmoteref16_Land_p n a0).bind fun y6=>some y6.1
theorem wardmoteref22_Land_c (n:Nat) (L:List Nat) (w:World) (hL:∀ b ∈ L,b < w.heap.size) (a0:TRoll) {v0_3:Value} (h0_3:Rep.R w L [v0_3] a0.fUnits)  {r:Int} (h:wardmoteref22_Land_p n a0 = some r) :
    Calls Tryz.prog 77 #[.agg #[vI a0.fGroups,vI a0.fParties,vI a0.fLevels,v0_3]] w (Gives w fun _ u=>u = vI r):=by
 unfold wardmoteref22_Land_p at h
 have hS0:=AK w
 refine AM Tryz.func77 rfl rfl rfl (fun _ cs0 hb0=>?_)
 refine Ae<|Az .plain rfl (AI hS0 rfl rfl) (fun w2 b5 hS3 hT4=>?_)
 refine Ag rfl<|Aa<|Ae<|Ab (AG rfl (hS3.memA .hd)) ?_
 obtain ⟨y6,hy6,h⟩:=bi h
 refine BE (.tuple #[vI y6.1,vI y6.2]) body100 rfl (e1 rfl) (fun w9 hw9=>wardmoteref16_Land_c n _ w9 (hS3.hL0 hL hw9) a0 (hS3.k0 h0_3 hw9) hy6) rfl<|Ac rfl<|Ab (Au rfl rfl)<|Ab (Au rfl rfl)<|Ag rfl<|Ag rfl<|Aa<|Ae<|Ac rfl<|Ag rfl<|Aa<|Am rfl<|AJ hb0 Tryz.func77 rfl rfl ?_
 cases h
 exact hS3.gv
def wardmoteref21_Mask_l1 (_n:Nat) (a0:List Int) (a1:Int) (d0:UInt64 × Nat → Option UInt64):UInt64 × Nat → Option UInt64
  | (c0,b0)=>(if b0 < a0.length then (a0[b0]?).bind fun g0=>(if g0 = a1 then d0 (c0 ||| (shlU (1:UInt64) b0),b0 + 1) else d0 (c0,b0 + 1)) else some c0)
def wardmoteref21_Mask_p (n:Nat) (a0:List Int) (a1:Int):Option UInt64:=
  Option.bind (loopF (wardmoteref21_Mask_l1 n a0 a1) n ((0:UInt64),0)) (fun b0=>some b0)
theorem wardmoteref21_Mask_c (n:Nat) (L:List Nat) (w:World) (_hL:∀ b ∈ L,b < w.heap.size) (a0:List Int) {v0_0:Value} (h0_0:Rep.R w L [v0_0] a0) (a1:Int)  {r:UInt64} (h:wardmoteref21_Mask_p n a0 a1 = some r) :
    Calls Tryz.prog 123 #[v0_0,vI a1] w (Gives w fun _ u=>u = .int .u64 (r.toNat:Int)):=by
 unfold wardmoteref21_Mask_p at h
 have hS0:=AK w
 refine AM Tryz.func123 rfl rfl rfl (fun _ cs0 hb0=>?_)
 refine Ae<|Ag rfl<|Aa<|Ae<|Ag rfl<|Aa<|Ak<|Ae<|Ag rfl<|Aa<|AB ?_
 obtain ⟨I0,B0,y0⟩:=bind_in2 h
 refine Bp (α:=UInt64 × Nat) (fun ⟨c0,b0⟩=>[(0,v0_0),(1,vI a1),(5,.int .u64 (c0.toNat:Int)),(6,vI ((b0:Nat):Int))]) (fun ⟨c0,b0⟩ j0=>St w j0 []∧Tr w [] j0 []) (fun ⟨c0,b0⟩=>(c0,b0)) ((0:UInt64),0) B0 ⟨rfl,rfl,rfl,rfl,trivial⟩ ⟨hS0,AN _ _⟩ ?_
 rintro F0 ⟨c0,b0⟩ j0 k0 ⟨d0,p0⟩ h
 unfold wardmoteref21_Mask_l1 at h
 try dsimp only at h
 refine Ak<|Ae<|Ac rfl<|Ac rfl ?_
 have g0:=Ax h0_0 d0
 have H0:a0.length ≤ 281474976710656:=AZ g0
 refine Ab (Bj (xs:=a0) Tryz.underlying43 rfl g0)<|Ab (BA (i:=b0) (j:=a0.length) rfl rfl)<|Aa<|AW rfl h (fun s0 h=>?_) (fun s0 h=>?_)
 refine Ao<|Ak<|AB<|Ae<|Ac rfl<|Ac rfl ?_
 obtain ⟨q0,D0,h⟩:=bi h
 obtain ⟨E0,G0,v0,z0,u0,C0,A0⟩:=Bb g0 D0
 have x0:u0 = [vI q0]:=C0; subst x0
 refine Ab (Be 1 b0 rfl v0 rfl rfl z0)<|AS rfl (A0 0 _ rfl)<|Ac rfl<|Ab (FV.eql (i:=q0) (j:=a1) rfl rfl)<|Aa<|AW rfl h (fun t0 h=>?_) (fun t0 h=>?_)
 refine Aw<|Ac rfl<|Ac rfl<|Ab (FV.shlU (a:=(1:UInt64)) (j:=b0) rfl rfl)<|Ab (FV.orU (a:=c0) (b:=shlU (1:UInt64) b0) rfl rfl)<|Ag rfl<|Aa<|AF<|Aw<|Ac rfl<|Ab (Bu (i:=b0) (j:=1) rfl rfl (by omega))<|Ag rfl<|Aa ?_
 exact k0 (c0 ||| (shlU (1:UInt64) b0),b0 + 1) _ _ ⟨rfl,rfl,rfl,rfl,trivial⟩ ⟨d0,p0⟩ h
 refine Ao<|AF<|Aw<|Ac rfl<|Ab (Bu (i:=b0) (j:=1) rfl rfl (by omega))<|Ag rfl<|Aa ?_
 exact k0 (c0,b0 + 1) _ _ ⟨rfl,rfl,rfl,rfl,trivial⟩ ⟨d0,p0⟩ h
 refine Bd rfl ?_
 have h:=y0 _ h
 try dsimp only at h
 refine Ae<|Ac rfl<|Ag rfl<|Aa<|Am rfl<|AJ hb0 Tryz.func123 rfl rfl ?_
 cases h
 exact d0.gv
theorem body123:bodyB Tryz.prog 123 = true:=by kernel_rfl
def wardmoteref21_all_l1 (n:Nat) (a1:Int) (a0:List Int) (c0:Int → Option (Bool ⊕ Unit)):Int → Option (Bool ⊕ Unit)
  | b0=>(if b0 < a1 then (wardmoteref21_Mask_p n a0 b0).bind fun g0=>(if g0 = (0:UInt64) then some (.inl false) else (chk (b0 + 1)).bind fun d0=>c0 d0) else some (.inr ()))
def wardmoteref21_all_p (n:Nat) (a0:List Int) (a1:Int):Option Bool:=
  thn (loopF (wardmoteref21_all_l1 n a1 a0) n 0) (fun _=>some true)
theorem wardmoteref21_all_c (n:Nat) (L:List Nat) (w:World) (hL:∀ b ∈ L,b < w.heap.size) (a0:List Int) {v0_0:Value} (h0_0:Rep.R w L [v0_0] a0) (a1:Int)  {r:Bool} (h:wardmoteref21_all_p n a0 a1 = some r) :
    Calls Tryz.prog 101 #[v0_0,vI a1] w (Gives w fun _ u=>u = .bool r):=by
 unfold wardmoteref21_all_p at h
 have hS0:=AK w
 refine AM Tryz.func101 rfl rfl rfl (fun _ cs0 hb0=>?_)
 refine Ae<|Ag rfl<|Aa<|Ak<|Ae<|Ag rfl<|Aa<|AB ?_
 obtain ⟨A0,u0,g0⟩:=thn_in h
 refine Bp (α:=Int) (fun b0=>[(0,v0_0),(1,vI a1),(5,vI b0)]) (fun b0 d0=>St w d0 []∧Tr w [] d0 []) (fun b0=>b0) 0 u0 ⟨rfl,rfl,rfl,trivial⟩ ⟨hS0,AN _ _⟩ ?_
 rintro z0 b0 d0 s0 ⟨c0,t0⟩ h
 unfold wardmoteref21_all_l1 at h
 try dsimp only at h
 refine Ak<|Ae<|Ac rfl<|Ac rfl<|Ab (BF (i:=b0) (j:=a1) rfl rfl)<|Aa<|AW rfl h (fun p0 h=>?_) (fun p0 h=>?_)
 refine Ao<|Ak<|AB<|Ae<|Ac rfl<|Ac rfl ?_
 obtain ⟨j0,x0,h⟩:=bi h
 refine BE (.int .u64 (j0.toNat:Int)) body123 rfl (e2 rfl rfl) (fun w9 hw9=>wardmoteref21_Mask_c n _ w9 (c0.hL0 hL hw9) a0 (c0.k0 h0_0 hw9) b0 x0) rfl<|Ab (FV.eqlU (a:=j0) (b:=(0:UInt64)) rfl rfl)<|Aa<|AW rfl h (fun q0 h=>?_) (fun q0 h=>?_)
 refine Ae<|Ag rfl<|Aa ?_
 have h:=thn_inl h g0
 refine Am rfl<|AJ hb0 Tryz.func101 rfl rfl ?_
 cases h
 exact c0.gv
 refine Ao<|AF<|Aw<|Ac rfl ?_
 obtain ⟨y0,v0,h⟩:=bi h
 refine Ab (BT (i:=b0) (j:=1) rfl rfl v0)<|Ag rfl<|Aa ?_
 exact s0 y0 _ _ ⟨rfl,rfl,rfl,trivial⟩ ⟨c0,t0⟩ h
 refine Bd rfl ?_
 have h:=thn_inr h g0
 try dsimp only at h
 refine Ae<|Ag rfl<|Aa<|Am rfl<|AJ hb0 Tryz.func101 rfl rfl ?_
 cases h
 exact c0.gv
theorem body75:bodyB Tryz.prog 75 = true:=by kernel_rfl
theorem body101:bodyB Tryz.prog 101 = true:=by kernel_rfl
def wardmoteref21_Check_p (n:Nat) (a0:TGraph) (a1:List Int) (a2:Int):Option Int:=
  (wardmoteref18_Check_p n a0).bind fun y6=>(if y6 = 0 then (if a2 < 1 then some (2:Int) else (if 8 < a2 then some (2:Int) else (if ((a1.length:Nat):Int) = a0.fN then (wardmoteref21_Labels_p n a1 a2).bind fun b0=>(if b0 = true then (wardmoteref21_all_p n a1 a2).bind fun c0=>(if c0 = true then some (0:Int) else some (210:Int)) else some (210:Int)) else some (210:Int)))) else some y6)
theorem wardmoteref21_Check_c (n:Nat) (L:List Nat) (w:World) (hL:∀ b ∈ L,b < w.heap.size) (a0:TGraph) {v0_1:Value} (h0_1:Rep.R w L [v0_1] a0.fEdges) (a1:List Int) {v1_0:Value} (h1_0:Rep.R w L [v1_0] a1) (a2:Int)  {r:Int} (h:wardmoteref21_Check_p n a0 a1 a2 = some r) :
    Calls Tryz.prog 78 #[.agg #[vI a0.fN,v0_1],v1_0,vI a2] w (Gives w fun _ u=>u = vI r):=by
 unfold wardmoteref21_Check_p at h
 have hS0:=AK w
 refine AM Tryz.func78 rfl rfl rfl (fun _ cs0 hb0=>?_)
 refine Ae<|Az .plain rfl (AI hS0 rfl rfl) (fun w2 b5 hS3 hT4=>?_)
 refine Ag rfl<|Aa<|Ak<|Ae<|Ab (AG rfl (hS3.memA .hd)) ?_
 obtain ⟨y6,hy6,h⟩:=bi h
 refine BE (vI y6) body75 rfl (e1 rfl) (fun w9 hw9=>wardmoteref18_Check_c n _ w9 (hS3.hL0 hL hw9) a0 (hS3.k0 h0_1 hw9) hy6) rfl<|Ag rfl<|Aa<|Ae<|Ac rfl<|Ab (BO (i:=y6) (j:=0) rfl rfl)<|Aa<|BV rfl h (fun c7 h=>?_) (fun c7 h=>?_)
 refine Ao<|Ak<|Ae<|Ac rfl<|Ab (BF (i:=a2) (j:=1) rfl rfl)<|Ac rfl<|Bi (s:=15) rfl h (fun c8 h=>?_) (fun c8 h=>?_)
 refine Af<|Af<|AU rfl rfl<|Aa<|AY rfl<|Ae<|Ag rfl<|Aa<|Am rfl<|AJ hb0 Tryz.func78 rfl rfl ?_
 cases h
 exact hS3.gv
 refine Ap (Ai rfl)<|Ap (FV.gtr (i:=a2) (j:=8) rfl rfl)<|AO rfl rfl<|Aa<|AW rfl h (fun c9 h=>?_) (fun c9 h=>?_)
 refine Ae<|Ag rfl<|Aa<|Am rfl<|AJ hb0 Tryz.func78 rfl rfl ?_
 cases h
 exact hS3.gv
 refine Ao<|Ak<|Ae<|Ac rfl ?_
 have b0:=Ax h1_0 hS3
 have t0:a1.length ≤ 281474976710656:=AZ b0
 refine Ab (Bj (xs:=a1) Tryz.underlying43 rfl b0)<|AH 0 rfl<|AS rfl ((hS3.memA .hd) 0 _ rfl)<|Ab (BO (i:=((a1.length:Nat):Int)) (j:=a0.fN) rfl rfl)<|Ac rfl<|RG.ifn (s:=24) rfl h (fun c0 h=>?_) (fun c0 h=>?_)
 refine Ap (Ai rfl)<|Ap (Ai rfl) ?_
 obtain ⟨q0,j0,h⟩:=bi h
 refine RG.callq' (v:=.bool q0) (fst:=[]) (cap:=[]) (.yes rfl rfl) body89 rfl (e2 rfl rfl) (fun w9 hw9=>wardmoteref21_Labels_c n _ w9 (hS3.hL0 hL hw9) a1 (hS3.k0 h1_0 hw9) a2 j0) rfl<|Ap (Ba rfl)<|AO rfl rfl<|Ac rfl<|RG.ifnb (s:=30) rfl h (fun d0 h=>?_) (fun d0 h=>?_)
 refine Ap (Ai rfl)<|Ap (Ai rfl) ?_
 obtain ⟨s0,p0,h⟩:=bi h
 refine RG.callq' (v:=.bool s0) (fst:=[]) (cap:=[]) (.yes rfl rfl) body101 rfl (e2 rfl rfl) (fun w9 hw9=>wardmoteref21_all_c n _ w9 (hS3.hL0 hL hw9) a1 (hS3.k0 h1_0 hw9) a2 p0) rfl<|Ap (Ba rfl)<|AO rfl rfl<|Aa<|BS rfl h (fun g0 h=>?_) (fun g0 h=>?_)
 refine Ao<|Ae<|Ag rfl<|Aa<|Am rfl<|AJ hb0 Tryz.func78 rfl rfl ?_
 cases h
 exact hS3.gv
 refine Ae<|Ag rfl<|Aa<|Am rfl<|AJ hb0 Tryz.func78 rfl rfl ?_
 cases h
 exact hS3.gv
 refine Af<|Af<|Af<|Af<|AU rfl rfl<|Aa<|AY rfl<|Ae<|Ag rfl<|Aa<|Am rfl<|AJ hb0 Tryz.func78 rfl rfl ?_
 cases h
 exact hS3.gv
 refine Af<|Af<|Af<|Af<|AU rfl rfl<|Ac rfl<|Af<|Af<|Af<|Af<|AU rfl rfl<|Aa<|AY rfl<|Ae<|Ag rfl<|Aa<|Am rfl<|AJ hb0 Tryz.func78 rfl rfl ?_
 cases h
 exact hS3.gv
 refine Ae<|Ac rfl<|Ag rfl<|Aa<|Am rfl<|AJ hb0 Tryz.func78 rfl rfl ?_
 cases h
 exact hS3.gv
def tb54_7:List (Nat × Nat × Nat):=[(0,2097152,32),(1,4194304,2097152),(0,8388608,16),(4,16777216,8388608),(10,33554432,20971520)]
theorem body77:bodyB Tryz.prog 77 = true:=by kernel_rfl
theorem body78:bodyB Tryz.prog 78 = true:=by kernel_rfl
def wardmoteref25_Check_p (n:Nat) (a0:TGraph) (a1:TRoll) (a2:List Int) (a3:Int):Option Int:=
  (wardmoteref18_Check_p n a0).bind fun b0=>(if b0 = 0 then (wardmoteref16_CheckRoll_p n a1).bind fun c0=>(if c0 = 0 then (wardmoteref22_Land_p n a1).bind fun d0=>(if d0 = a0.fN then (wardmoteref21_Check_p n a0 a2 a3).bind fun g0=>some g0 else some (5:Int)) else some c0) else some b0)
theorem wardmoteref25_Check_c (n:Nat) (L:List Nat) (w:World) (hL:∀ b ∈ L,b < w.heap.size) (a0:TGraph) {v0_1:Value} (h0_1:Rep.R w L [v0_1] a0.fEdges) (a1:TRoll) {v1_3:Value} (h1_3:Rep.R w L [v1_3] a1.fUnits) (a2:List Int) {v2_0:Value} (h2_0:Rep.R w L [v2_0] a2) (a3:Int)  {r:Int} (h:wardmoteref25_Check_p n a0 a1 a2 a3 = some r) :
    Calls Tryz.prog 54 #[.agg #[vI a0.fN,v0_1],.agg #[vI a1.fGroups,vI a1.fParties,vI a1.fLevels,v1_3],v2_0,vI a3] w (Gives w fun _ u=>u = vI r):=by
 unfold wardmoteref25_Check_p at h
 have hS0:=AK w
 refine AM Tryz.func54 rfl rfl rfl (fun _ cs0 hb0=>?_)
 refine Ae<|Az .plain rfl (AI hS0 rfl rfl) (fun w2 b5 hS3 hT4=>?_)
 refine Az .plain rfl (AI hS3 rfl rfl) (fun w7 z0 hS8 hT9=>?_)
 refine Ag rfl<|Aa<|Ak<|Ae<|Ab (AG rfl (hS8.memA (.tl .hd))) ?_
 obtain ⟨d0,t0,h⟩:=bi h
 refine BE (vI d0) body75 rfl (e1 rfl) (fun w9 hw9=>wardmoteref18_Check_c n _ w9 (hS8.hL0 hL hw9) a0 (hS8.k0 h0_1 hw9) t0) rfl<|Ag rfl<|Aa<|Ae<|Ac rfl<|Ab (BO (i:=d0) (j:=0) rfl rfl)<|Aa<|BV rfl h (fun p0 h=>?_) (fun p0 h=>?_)
 refine Ao<|Ak<|Ae<|Ab (AG rfl (hS8.memA .hd)) ?_
 obtain ⟨g0,u0,h⟩:=bi h
 refine BE (vI g0) body76 rfl (e1 rfl) (fun w9 hw9=>wardmoteref16_CheckRoll_c n _ w9 (hS8.hL0 hL hw9) a1 (hS8.k0 h1_3 hw9) u0) rfl<|Ag rfl<|Aa<|Ae<|Ac rfl<|Ab (BO (i:=g0) (j:=0) rfl rfl)<|Aa<|BV rfl h (fun q0 h=>?_) (fun q0 h=>?_)
 refine Ao<|Ak<|Ak<|Bm 5 tb54_7 (by kernel_rfl) (by kernel_rfl) (by kernel_rfl) (fun b0 c0=>?_)
 refine AT 0 1 18 b0 rfl c0 (AG rfl (hS8.memA .hd)) rfl ?_
 obtain ⟨j0,v0,h⟩:=bi h
 refine RD.cq 1 3 16 (vI j0) b0 rfl c0 body77 rfl (e1 rfl) (fun w9 hw9=>wardmoteref22_Land_c n _ w9 (hS8.hL0 hL hw9) a1 (hS8.k0 h1_3 hw9) v0) rfl<|Ah 2 7 b0 rfl c0 (fun _=>Bt 0 rfl) rfl<|AT 3 15 16 b0 rfl c0 (AA rfl ((hS8.memA (.tl .hd)) 0 _ rfl)) rfl<|Ah 4 31 b0 rfl c0 (fun _=>BO (i:=j0) (j:=a0.fN) rfl rfl) rfl<|Bc (doneD_ok b0 (by kernel_rfl))<|BV rfl h (fun s0 h=>?_) (fun s0 h=>?_)
 refine Ao<|Ae<|Ab (AG rfl (hS8.memA (.tl .hd)))<|Ac rfl<|Ac rfl ?_
 obtain ⟨y0,x0,h⟩:=bi h
 refine BE (vI y0) body78 rfl (e3 rfl rfl rfl) (fun w9 hw9=>wardmoteref21_Check_c n _ w9 (hS8.hL0 hL hw9) a0 (hS8.k0 h0_1 hw9) a2 (hS8.k0 h2_0 hw9) a3 x0) rfl<|Ag rfl<|Aa<|Am rfl<|AJ hb0 Tryz.func54 rfl rfl ?_
 cases h
 exact hS8.gv
 refine Ae<|Ag rfl<|Aa<|Am rfl<|AJ hb0 Tryz.func54 rfl rfl ?_
 cases h
 exact hS8.gv
 refine Ae<|Ac rfl<|Ag rfl<|Aa<|Am rfl<|AJ hb0 Tryz.func54 rfl rfl ?_
 cases h
 exact hS8.gv
 refine Ae<|Ac rfl<|Ag rfl<|Aa<|Am rfl<|AJ hb0 Tryz.func54 rfl rfl ?_
 cases h
 exact hS8.gv
def wardmoteref22_counted_p (n:Nat) (a0:TRoll) (a1:Int):Option Int:=
  (wardmoteref16_CheckRoll_p n a0).bind fun y6=>(if y6 = 0 then (if a1 < 1 then some (2:Int) else (if 8 < a1 then some (2:Int) else some (0:Int))) else some y6)
theorem wardmoteref22_counted_c (n:Nat) (L:List Nat) (w:World) (hL:∀ b ∈ L,b < w.heap.size) (a0:TRoll) {v0_3:Value} (h0_3:Rep.R w L [v0_3] a0.fUnits) (a1:Int)  {r:Int} (h:wardmoteref22_counted_p n a0 a1 = some r) :
    Calls Tryz.prog 102 #[.agg #[vI a0.fGroups,vI a0.fParties,vI a0.fLevels,v0_3],vI a1] w (Gives w fun _ u=>u = vI r):=by
 unfold wardmoteref22_counted_p at h
 have hS0:=AK w
 refine AM Tryz.func102 rfl rfl rfl (fun _ cs0 hb0=>?_)
 refine Ae<|Az .plain rfl (AI hS0 rfl rfl) (fun w2 b5 hS3 hT4=>?_)
 refine Ag rfl<|Aa<|Ak<|Ae<|Ab (AG rfl (hS3.memA .hd)) ?_
 obtain ⟨y6,hy6,h⟩:=bi h
 refine BE (vI y6) body76 rfl (e1 rfl) (fun w9 hw9=>wardmoteref16_CheckRoll_c n _ w9 (hS3.hL0 hL hw9) a0 (hS3.k0 h0_3 hw9) hy6) rfl<|Ag rfl<|Aa<|Ae<|Ac rfl<|Ab (BO (i:=y6) (j:=0) rfl rfl)<|Aa<|BV rfl h (fun c7 h=>?_) (fun c7 h=>?_)
 refine Ao<|Ak<|Ae<|Ac rfl<|Ab (BF (i:=a1) (j:=1) rfl rfl)<|Ac rfl<|Bi (s:=13) rfl h (fun c8 h=>?_) (fun c8 h=>?_)
 refine Af<|Af<|AU rfl rfl<|Aa<|AY rfl<|Ae<|Ag rfl<|Aa<|Am rfl<|AJ hb0 Tryz.func102 rfl rfl ?_
 cases h
 exact hS3.gv
 refine Ap (Ai rfl)<|Ap (FV.gtr (i:=a1) (j:=8) rfl rfl)<|AO rfl rfl<|Aa<|AW rfl h (fun c9 h=>?_) (fun c9 h=>?_)
 refine Ae<|Ag rfl<|Aa<|Am rfl<|AJ hb0 Tryz.func102 rfl rfl ?_
 cases h
 exact hS3.gv
 refine Ao<|Ae<|Ag rfl<|Aa<|Am rfl<|AJ hb0 Tryz.func102 rfl rfl ?_
 cases h
 exact hS3.gv
 refine Ae<|Ac rfl<|Ag rfl<|Aa<|Am rfl<|AJ hb0 Tryz.func102 rfl rfl ?_
 cases h
 exact hS3.gv
end Go.Proofs.YtcijnmkodpfpgaaGreatDoor
