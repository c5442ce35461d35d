/- Functions of the program, and what they give: part 8. -/
import Derived.Test.YtbgcdbblaadokaaGreatDoorPU7
namespace Go.Proofs.YtbgcdbblaadokaaGreatDoor
open Go Go.RowKit
set_option maxRecDepth 4000
set_option maxHeartbeats 4000000

def tb4_8:List (Nat × Nat × Nat):=[(0,68719476736,128),(1,137438953472,68719476736),(0,274877906944,256),(0,549755813888,128),(8,1099511627776,549755813888),(0,2199023255552,256),(48,4398046511104,3298534883328),(64,8796093022208,4398046511104),(128,17592186044416,8796093022208),(256,35184372088832,17592186044416),(1023,70368744177664,412316860416),(2047,140737488355328,70368744177664),(3071,0,175921860444160)]
def tb4_24:List (Nat × Nat × Nat):=[(0,1393796574908163946345982392040522594123776,131072),(1,2787593149816327892691964784081045188247552,1393796574908163946345982392040522594123776),(2,5575186299632655785383929568162090376495104,2787593149816327892691964784081045188247552),(4,11150372599265311570767859136324180752990208,5575186299632655785383929568162090376496128),(4,22300745198530623141535718272648361505980416,5575186299632655785383929568162090376495104),(28,44601490397061246283071436545296723011960832,39026304097428590497687506977134632635465728),(36,89202980794122492566142873090593446023921664,50176676696693902068455366113458813388455936),(80,178405961588244985132285746181186892047843328,89202980794122492566142873090593446023921664),(128,356811923176489970264571492362373784095686656,178405961588244985132285746181186892047974400),(384,713623846352979940529142984724747568191373312,535217884764734955396857238543560676143529984),(640,1427247692705959881058285969449495136382746624,892029807941224925661428730905934460239216640),(1024,2854495385411919762116571938898990272765493248,1427247692705959881058285969449495136382746624),(1024,5708990770823839524233143877797980545530986496,1427247692705959881058285969449495136382812160),(7168,11417981541647679048466287755595961091061972992,9990733848941719167408001786146465954679226368),(9344,22835963083295358096932575511191922182123945984,13023635195941883914656859471226643119492562944),(24704,45671926166590716193865151022383844364247891968,23014369044883603082064861257373109074171789312),(32768,91343852333181432387730302044767688728495783936,45671926166590716193865151022383844364247957504),(32768,182687704666362864775460604089535377456991567872,45671926166590716193865151022383844364247891968),(229376,365375409332725729550921208179070754913983135744,319703483166135013357056057156686910549735243776),(295040,730750818665451459101842416358141509827966271488,411225741460904690729918644947635786170278871040),(786560,1461501637330902918203684832716283019655932542976,730929224627039704086974702104322696720014114816),(1048576,2923003274661805836407369665432566039311865085952,1461501637330902918203684832716283019655932608512),(1048576,5846006549323611672814739330865132078623730171904,1461501637330902918203684832716283019655932542976),(7340032,11692013098647223345629478661730264157247460343808,10230511461316320427425793829013981137591527800832),(1048576,23384026197294446691258957323460528314494920687616,1461501637330902918203684832716283019655932544000),(5242880,46768052394588893382517914646921056628989841375232,1461501637330902918203684832716283019655932542976),(51380224,93536104789177786765035829293842113257979682750464,71613580229214242991980556803097867963140694605824),(76546048,187072209578355573530071658587684226515959365500928,106689619525155913028868992788288660434883075637248),(135266432,374144419156711147060143317175368453031918731001856,188533889621648064693260475706146690722507345887232),(268435584,748288838313422294120286634350736906063837462003712,374144597562672735305128449461114634218810778845184),(1073741823,64,748288838313422294120286634350736906063837462003712)]
theorem body6:bodyB Tryz.prog 6 = true:=by kernel_rfl
theorem body7:bodyB Tryz.prog 7 = true:=by kernel_rfl
theorem body12:bodyB Tryz.prog 12 = true:=by kernel_rfl
theorem body14:bodyB Tryz.prog 14 = true:=by kernel_rfl
def wardmotelaw29_MinorityTurns_l1 (_n:Nat) (p0:TRoll) (g0:Nat × (List TUnit) → Option (List TUnit)):Nat × (List TUnit) → Option (List TUnit)
  | (c0,d0)=>(if c0 < p0.fu.length then (d0[c0]?).bind fun b0=>(cut b0.fVotes 0 2).bind fun j0=>(put d0 ((c0:Nat):Int) (⟨b0.fG,b0.fF,b0.fj,j0,b0.fParents,b0.ft⟩:TUnit)).bind fun k0=>g0 (c0 + 1,k0) else some d0)
def wardmotelaw29_MinorityTurns_p (n:Nat) (a0:UInt8) (a1:TDraft) (a2:UInt8):Option Bool:=
  (wardmotelaw29_works_p n).bind fun v0=>(if v0 = true then (wardmoteref22_Draft_Full_p n a1 ((1 + ((a0 % (8:UInt8)).toNat):Nat):Int)).bind fun d0=>Option.bind (loopF (wardmotelaw29_MinorityTurns_l1 n d0) n (0,d0.fu)) (fun k0=>(minority_Line_p n (⟨d0.fj,(2:Int),d0.fl,k0⟩:TRoll) (((a2 % (2:UInt8)).toNat:Nat):Int) (0:Int)).bind fun c0=>(minority_Line_p n (⟨d0.fj,(2:Int),d0.fl,k0⟩:TRoll) (((a2 % (2:UInt8)).toNat:Nat):Int) (1:Int)).bind fun j0=>(minority_Fit_p n (⟨d0.fj,(2:Int),d0.fl,k0⟩:TRoll) (((a2 % (2:UInt8)).toNat:Nat):Int) (0:Int)).bind fun b0=>(minority_Fit_p n (⟨d0.fj,(2:Int),d0.fl,k0⟩:TRoll) (((a2 % (2:UInt8)).toNat:Nat):Int) (1:Int)).bind fun p0=>(if c0.2.2 = 6 then some true else (if j0.2.2 = 6 then some true else (if b0.2 = 6 then some true else (if p0.2 = 6 then some true else jn (fun u0=>(if u0 = true then some false else (if c0.2.2 = 0 then (share_Add_p n c0.1 j0.1).bind fun q0=>(if q0.2 = 0 then (wardmotelaw29_of_p n (0:Int) (1:Int)).bind fun x0=>(if q0.1 = x0 then (share_Add_p n c0.2.1 j0.2.1).bind fun s0=>(if s0.2 = 0 then (wardmotelaw29_of_p n (1:Int) (1:Int)).bind fun y0=>(if s0.1 = y0 then (if b0.2 = 7 then (wardmotelaw29_of_p n (0:Int) (1:Int)).bind fun z0=>(if c0.1 = z0 then some true else (if b0.2 = 0 then (wardmotelaw29_of_p n (0:Int) (1:Int)).bind fun A0=>(wardmotelaw29_atMost_p n A0 b0.1).bind fun B0=>(if B0 = true then (wardmotelaw29_of_p n (1:Int) (1:Int)).bind fun C0=>(wardmotelaw29_atMost_p n b0.1 C0).bind fun D0=>(if D0 = true then (wardmotelaw29_of_p n (0:Int) (1:Int)).bind fun E0=>(wardmotelaw29_of_p n (0:Int) (1:Int)).bind fun F0=>some ((decide (b0.1 = E0)) == (decide (c0.1 = F0))) else some false) else some false) else some false)) else (if b0.2 = 0 then (wardmotelaw29_of_p n (0:Int) (1:Int)).bind fun G0=>(wardmotelaw29_atMost_p n G0 b0.1).bind fun H0=>(if H0 = true then (wardmotelaw29_of_p n (1:Int) (1:Int)).bind fun I0=>(wardmotelaw29_atMost_p n b0.1 I0).bind fun J0=>(if J0 = true then (wardmotelaw29_of_p n (0:Int) (1:Int)).bind fun K0=>(wardmotelaw29_of_p n (0:Int) (1:Int)).bind fun M0=>some ((decide (b0.1 = K0)) == (decide (c0.1 = M0))) else some false) else some false) else some false)) else some false) else (wardmotelaw29_of_p n (0:Int) (1:Int)).bind fun P0=>(wardmotelaw29_of_p n (1:Int) (1:Int)).bind fun Q0=>(if P0 = Q0 then some false else some false)) else some false) else (wardmotelaw29_of_p n (0:Int) (1:Int)).bind fun R0=>(wardmotelaw29_of_p n (0:Int) (1:Int)).bind fun U0=>(if R0 = U0 then (share_Add_p n c0.2.1 j0.2.1).bind fun t0=>(if t0.2 = 0 then (wardmotelaw29_of_p n (1:Int) (1:Int)).bind fun V0=>(if t0.1 = V0 then some false else some false) else (wardmotelaw29_of_p n (0:Int) (1:Int)).bind fun W0=>(wardmotelaw29_of_p n (1:Int) (1:Int)).bind fun X0=>(if W0 = X0 then some false else some false)) else some false)) else some (decide (c0.2.2 = 7))))) (fun g0=>(if c0.2.2 = j0.2.2 then (if b0.2 = p0.2 then (if b0.1 = p0.1 then (if c0.2.2 = 0 then g0 false else g0 (!(decide (b0.2 = c0.2.2)))) else g0 true) else g0 true) else g0 true))))))) else some false)
theorem wardmotelaw29_MinorityTurns_c (n:Nat) (L:List Nat) (w:World) (hL:∀ b ∈ L,b < w.heap.size) (a0:UInt8) (a1:TDraft) {v1_4:Value} (h1_4:Rep.R w L [v1_4] a1.fNums) (a2:UInt8)  {r:Bool} (h:wardmotelaw29_MinorityTurns_p n a0 a1 a2 = some r) :
    Calls Tryz.prog 4 #[.int .u8 (a0.toNat:Int),.agg #[.int .u8 (a1.fj.toNat:Int),.int .u8 (a1.fe.toNat:Int),.int .u8 (a1.fl.toNat:Int),.int .u8 (a1.ft.toNat:Int),v1_4],.int .u8 (a2.toNat:Int)] w (Gives w fun _ u=>u = .bool r):=by
 unfold wardmotelaw29_MinorityTurns_p at h
 have hS0:=Ay w
 refine AF Tryz.func4 rfl rfl rfl (fun _ cs0 hb0=>?_)
 refine Ac<|Ai .plain rfl (Ap hS0 rfl rfl) (fun s9 V6 I0 I7=>?_)
 refine Ah rfl<|Aa<|Ak<|Ac ?_
 obtain ⟨I6,I5,h⟩:=bi h
 refine Be (.bool I6) body6 rfl evs_nil (fun w9 hw9=>wardmotelaw29_works_c n _ w9 (I0.hL0 hL hw9)  I5) rfl<|Ab (FV.not rfl)<|Aa<|MX.ifnb rfl h (fun V2 h=>?_) (fun V2 h=>?_)
 refine Av<|Ac<|Ab (Ax rfl (I0.memA .hd))<|Ae rfl<|Ab (FV.rem8 (a:=a0) (b:=(8:UInt8)) rfl rfl (by decide)) ?_
 have c9:=(a0 % (8:UInt8)).toNat_lt
 refine Ab (FV.convN (i:=(a0 % (8:UInt8)).toNat) Tryz.underlying5 Tryz.underlying3 rfl (by omega))<|Ab (Bp (i:=1) (j:=(a0 % (8:UInt8)).toNat) rfl rfl (by omega)) ?_
 obtain ⟨k0,J5,h⟩:=bi h
 refine Bs (fst:=[]) (cap:=[]) .plain body7 rfl (e2 rfl rfl) (fun w9 hw9=>own_gives (b0:=w.heap.size) (wardmoteref22_Draft_Full_c n _ w9 (I0.hL hL hw9) a1 (I0.km h1_4 hw9) ((1 + ((a0 % (8:UInt8)).toNat):Nat):Int) J5) hw9 (Nat.le_trans I0.ag.size hw9.size)) rfl (fun t9 q9 J8 ⟨t0,E1,F5,F2,c5⟩=>?_)
 subst F5
 have Z1:=own_push I0 F2
 have J7:=own_tr I0 F2
 have d5:=AH (cs:=E1) (xs:=(k0.fu:List TUnit)) Z1 L (own_cells c5)
 refine Ai .plain rfl (Au [vI 0,vI 0,vI 0,vN] Z1) (fun U9 P0 c2 Q4=>?_)
 refine AK [vI k0.fj,vI k0.fe,vI k0.fl,t0] c2 .hd (o4 rfl rfl rfl (St.o1 (α:=TUnit) c2 (.tl .hd))) (fun w36 p4 R4=>?_)
 refine Aa<|Ac<|Bc 1 rfl<|BG .plain (Bj (j:=1) (old:=[vI k0.fj,vI k0.fe,vI k0.fl,t0]) (news:=[vI 2]) (new' :=[vI k0.fj,vI 2,vI k0.fl,t0]) p4 .hd rfl rfl rfl rfl rfl rfl (o1 rfl) rfl) (fun F6 v1 U4=>?_)
 refine Aa<|Ak<|Ac<|Bc 3 rfl<|Bf rfl ((v1.memA .hd) 3 _ rfl) ?_
 have M8:k0.fu.length ≤ 4294967296:=St.rowLe (α:=TUnit) v1 (.tl .hd)
 obtain ⟨Q6,z7,k5⟩:=St.rowV (α:=TUnit) v1 (.tl .hd)
 refine Ab (FV.lenV Tryz.underlying26 rfl k5)<|Ae rfl<|Aa<|AA ?_
 obtain ⟨M3,A4⟩:=AM v1 (.one .hd (.one .hd .done))
 have y5:=Tt Q4 (Tt R4 (Tt U4 A4))
 have q5:=AP d5 y5
 obtain ⟨g9,x5,p5⟩:=bind_in2 h
 refine Bq (α:=Nat × (List TUnit) × (List Value)) (fun ⟨B0,u0,H0⟩=>[(2,.int .u8 (a2.toNat:Int)),(7,vP P0),(32,vI ((k0.fu.length:Nat):Int)),(33,vI ((B0:Nat):Int))]) (fun ⟨B0,u0,H0⟩ z1=>St w z1 [.cells P0 [vI k0.fj,vI 2,vI k0.fl,t0] 28,.row w.heap.size 44 (Rep.size TUnit) t0 u0.length H0]∧Tr F6 [.cells P0 [vI k0.fj,vI 2,vI k0.fl,t0] 28,.row w.heap.size 44 (Rep.size TUnit) t0 k0.fu.length E1] z1 [.cells P0 [vI k0.fj,vI 2,vI k0.fl,t0] 28,.row w.heap.size 44 (Rep.size TUnit) t0 u0.length H0]∧Cells z1 (bl [.cells P0 [vI k0.fj,vI 2,vI k0.fl,t0] 28,.row w.heap.size 44 (Rep.size TUnit) t0 u0.length H0] ++ L) H0 u0) (fun ⟨B0,u0,H0⟩=>(B0,u0)) (0,k0.fu,E1) x5 ⟨rfl,rfl,rfl,rfl,trivial⟩ ⟨M3,Bg _ _,q5⟩ ?_
 rintro R6 ⟨B0,u0,H0⟩ z1 K3 ⟨D0,B4,K0⟩ h
 unfold wardmotelaw29_MinorityTurns_l1 at h
 try dsimp only at h
 refine Ac<|Ab (Bn (i:=B0) (j:=k0.fu.length) rfl rfl)<|Aa<|Ak<|Bb rfl h (fun W2 h=>?_) (fun W2 h=>?_)
 refine Av<|Ak<|AA<|Ac<|Ae rfl<|Ah rfl<|Aa<|dt 12 tb4_8 (fun s0 z0=>?_)
 refine Ag 0 1 s0 rfl z0 (fun _=>AR 3 rfl) rfl<|AB 1 3 7168 s0 rfl z0 (AL rfl ((D0.memA .hd) 3 _ rfl)) rfl<|Ag 2 7 s0 rfl z0 (fun _=>Aj rfl) rfl<|Ag 3 15 s0 rfl z0 (fun _=>AR 3 rfl) rfl<|AB 4 31 8128 s0 rfl z0 (AL rfl ((D0.memA .hd) 3 _ rfl)) rfl<|Ag 5 63 s0 rfl z0 (fun _=>Aj rfl) rfl ?_
 obtain ⟨C0,E2,h⟩:=bi h
 obtain ⟨Q2,v7,y1,K1,A7,A5,s5⟩:=St.nth (α:=TUnit) D0 (.tl .hd) K0 E2
 obtain ⟨R2,x7,B2⟩:=St.nthOwn (α:=TUnit) D0 (.tl .hd) K1
 obtain rfl:Q2 = ⟨R2,0,none⟩:=by rw [B2] at y1; cases y1; rfl
 obtain ⟨j9,k9,p9,rfl,Y8,B5,Z8⟩:=op_TUnit A5
 refine Ag 6 127 s0 rfl z0 (fun _=>Bz 6 B0 rfl y1 rfl rfl K1) rfl<|Ag 7 255 s0 rfl z0 (fun _=>AR 3 rfl) rfl<|AB 8 511 7680 s0 rfl z0 (AL rfl (s5 3 _ rfl)) rfl ?_
 obtain ⟨G6,G5,h⟩:=bi h
 refine RD.valE (i:=9) (m' :=1023) (W:=7168) (tk s0) rfl z0 .plain rfl (FV.cutL (α:=Int) G5 (by kernel_rfl) rfl B5 rfl ⟨_,rfl⟩) (fun G2 M1=>?_)
 refine Ag 10 2047 s0 rfl z0 (fun _=>Bz 6 B0 rfl y1 rfl rfl K1) rfl<|Ag 11 4095 s0 rfl z0 (fun _=>AR 3 rfl) rfl ?_
 obtain ⟨y7,j5,K8,B7,C5,P8,g5⟩:=St.nthAt (α:=TUnit) D0 (.tl .hd) K0 E2 B2
 obtain ⟨H2,D6,I2,rfl,D5,b9,E5⟩:=op_TUnit C5
 obtain ⟨H6,H5,h⟩:=bi h
 refine BF (i:=12) (rk s0) (RO.acts (m' :=8191) (sk s0) rfl rfl .plain (Acts.setPart (α:=TUnit) (i:=B0) (tot:=3) (ds:=[.string C0.fG,vI C0.fF,H2,D6,I2,.bool C0.ft]) (news:=[G2]) (full:=[.string C0.fG,vI C0.fF,H2,G2,I2,.bool C0.ft]) H5 D0 j5 (fun _=>(.tl .hd)) K0 g5 rfl (by kernel_rfl) rfl rfl rfl (Rep.c1 M1) (mk_TUnit C0.fG C0.fF C0.fj D5 G6 M1 C0.fParents E5 C0.ft) (by kernel_rfl) (o1 (AW M1))) (fun u9 ⟨J3,P3,C4,b5⟩=>?_))
 refine AG (dk s0)<|AC<|Ao<|Ab (Bp (i:=B0) (j:=1) rfl rfl (by omega))<|Ae rfl<|Aa ?_
 exact K3 (B0 + 1,H6,J3) _ _ ⟨rfl,rfl,rfl,rfl,trivial⟩ ⟨P3,(Tt B4 C4),b5⟩ h
 refine Bh rfl ?_
 have h:=p5 _ h
 try dsimp only at h
 refine Ac<|Ae rfl<|Ab (FV.rem8 (a:=a2) (b:=(2:UInt8)) rfl rfl (by decide)) ?_
 have d9:=(a2 % (2:UInt8)).toNat_lt
 refine Ab (FV.convN (i:=(a2 % (2:UInt8)).toNat) Tryz.underlying5 Tryz.underlying3 rfl (by omega))<|Ah rfl<|Aa<|Ac<|Ab (Ax rfl (D0.memA .hd))<|Ae rfl ?_
 obtain ⟨j0,K5,h⟩:=bi h
 refine Be (.tuple #[.agg ((cs_TShare j0.1)).toArray,.agg ((cs_TShare j0.2.1)).toArray,vI j0.2.2]) body8 rfl (e3 rfl rfl rfl) (fun w9 hw9=>minority_Line_c n _ w9 (D0.hL0 hL hw9) (⟨k0.fj,(2:Int),k0.fl,u0⟩:TRoll) (Aq (St.lend (α:=TUnit) (L:=L) D0 (.tl .hd) K0 hL) hw9) (((a2 % (2:UInt8)).toNat:Nat):Int) (0:Int) K5) rfl<|Ae rfl<|Ab (Af rfl rfl)<|Ab (Af rfl rfl)<|Ab (Af rfl rfl)<|Ai .plain rfl (Au zL D0) (fun v9 Z0 Q3 D4=>?_)
 refine Ai .plain rfl (Au zL Q3) (fun x9 b1 R3 E4=>?_)
 refine AK (cs_TShare j0.1) R3 (.tl .hd) (onesB rfl) (fun y9 U3 F4=>?_)
 refine AK (cs_TShare j0.2.1) U3 .hd (onesB rfl) (fun z9 k1 G4=>?_)
 refine Ah rfl<|Aa<|Ac<|Ab (Ax rfl (k1.memA (.tl (.tl .hd))))<|Ae rfl ?_
 obtain ⟨q0,M5,h⟩:=bi h
 have C2:=Tt D4 (Tt E4 (Tt F4 G4))
 have t5:=AP K0 C2
 refine Be (.tuple #[.agg ((cs_TShare q0.1)).toArray,.agg ((cs_TShare q0.2.1)).toArray,vI q0.2.2]) body8 rfl (e3 rfl rfl rfl) (fun w9 hw9=>minority_Line_c n _ w9 (k1.hL0 hL hw9) (⟨k0.fj,(2:Int),k0.fl,u0⟩:TRoll) (Aq (St.lend (α:=TUnit) (L:=L) k1 (.tl (.tl (.tl .hd))) t5 hL) hw9) (((a2 % (2:UInt8)).toNat:Nat):Int) (1:Int) M5) rfl<|Ae rfl<|Ab (Af rfl rfl)<|Ab (Af rfl rfl)<|Ab (Af rfl rfl)<|Ai .plain rfl (Au zL k1) (fun A9 d1 V3 H4=>?_)
 refine Ai .plain rfl (Au zL V3) (fun B9 g1 W3 I4=>?_)
 refine AK (cs_TShare q0.1) W3 (.tl .hd) (onesB rfl) (fun C9 X3 J4=>?_)
 refine AK (cs_TShare q0.2.1) X3 .hd (onesB rfl) (fun D9 p1 K4=>?_)
 refine Ah rfl<|Aa<|Ac<|Ab (Ax rfl (p1.memA (.tl (.tl (.tl (.tl .hd))))))<|Ae rfl ?_
 obtain ⟨p0,P5,h⟩:=bi h
 have D2:=Tt C2 (Tt H4 (Tt I4 (Tt J4 K4)))
 have u5:=AP K0 D2
 refine Be (.tuple #[.agg ((cs_TShare p0.1)).toArray,vI p0.2]) body13 rfl (e3 rfl rfl rfl) (fun w9 hw9=>minority_Fit_c n _ w9 (p1.hL0 hL hw9) (⟨k0.fj,(2:Int),k0.fl,u0⟩:TRoll) (Aq (St.lend (α:=TUnit) (L:=L) p1 (.tl (.tl (.tl (.tl (.tl .hd))))) u5 hL) hw9) (((a2 % (2:UInt8)).toNat:Nat):Int) (0:Int) P5) rfl<|Ae rfl<|Ab (Af rfl rfl)<|Ab (Af rfl rfl)<|Ai .plain rfl (Au zL p1) (fun E9 j1 Y3 M4=>?_)
 refine AK (cs_TShare p0.1) Y3 .hd (onesB rfl) (fun F9 q1 P4=>?_)
 refine Ah rfl<|Aa<|Ac<|Ab (Ax rfl (q1.memA (.tl (.tl (.tl (.tl (.tl .hd)))))))<|Ae rfl ?_
 obtain ⟨J0,Q5,h⟩:=bi h
 have z5:=Tt D2 (Tt M4 P4)
 have v5:=AP K0 z5
 refine Be (.tuple #[.agg ((cs_TShare J0.1)).toArray,vI J0.2]) body13 rfl (e3 rfl rfl rfl) (fun w9 hw9=>minority_Fit_c n _ w9 (q1.hL0 hL hw9) (⟨k0.fj,(2:Int),k0.fl,u0⟩:TRoll) (Aq (St.lend (α:=TUnit) (L:=L) q1 (.tl (.tl (.tl (.tl (.tl (.tl .hd)))))) v5 hL) hw9) (((a2 % (2:UInt8)).toNat:Nat):Int) (1:Int) Q5) rfl<|Ae rfl<|Ab (Af rfl rfl)<|Ab (Af rfl rfl)<|Ai .plain rfl (Au zL q1) (fun G9 U2 Z3 K7=>?_)
 refine AK (cs_TShare J0.1) Z3 .hd (onesB rfl) (fun E6 A0 M7=>?_)
 refine Ah rfl<|Aa<|Ak<|Ac<|Ae rfl<|Ab (FV.eql (i:=j0.2.2) (j:=6) rfl rfl)<|Ae rfl<|RG.ifd (s:=80) rfl h (fun X2 h=>?_) (fun X2 h=>?_)
 refine AD<|AD<|BB rfl rfl<|Ae rfl<|AD<|AD<|BB rfl rfl<|Ae rfl<|AD<|AD<|BB rfl rfl<|Aa<|AU rfl<|Ac<|Ah rfl<|Aa<|Al rfl<|AZ hb0 Tryz.func4 rfl rfl ?_
 cases h
 exact A0.gv
 refine AO (Aj rfl)<|AO (FV.eql (i:=q0.2.2) (j:=6) rfl rfl)<|RG.pf rfl rfl<|Ae rfl<|RG.ifd (s:=84) rfl h (fun Y2 h=>?_) (fun Y2 h=>?_)
 refine AD<|AD<|BB rfl rfl<|Ae rfl<|AD<|AD<|BB rfl rfl<|Aa<|AU rfl<|Ac<|Ah rfl<|Aa<|Al rfl<|AZ hb0 Tryz.func4 rfl rfl ?_
 cases h
 exact A0.gv
 refine AO (Aj rfl)<|AO (FV.eql (i:=p0.2) (j:=6) rfl rfl)<|RG.pf rfl rfl<|Ae rfl<|RG.ifd (s:=88) rfl h (fun Z2 h=>?_) (fun Z2 h=>?_)
 refine AD<|AD<|BB rfl rfl<|Aa<|AU rfl<|Ac<|Ah rfl<|Aa<|Al rfl<|AZ hb0 Tryz.func4 rfl rfl ?_
 cases h
 exact A0.gv
 refine AO (Aj rfl)<|AO (FV.eql (i:=J0.2) (j:=6) rfl rfl)<|RG.pf rfl rfl<|Aa<|Bb rfl h (fun b3 h=>?_) (fun b3 h=>?_)
 refine Ac<|Ah rfl<|Aa<|Al rfl<|AZ hb0 Tryz.func4 rfl rfl ?_
 cases h
 exact A0.gv
 refine Av<|Ak<|Ak<|MX.join (α:=Bool) (fun Y0=>[(10,vP Z0),(11,vP b1),(12,vI j0.2.2),(13,vP d1),(14,vP g1),(16,vP j1),(17,vI p0.2),(113,.bool Y0)]) (fun Y0 P1=>St w P1 [.cells j1 (cs_TShare p0.1) 34,.cells g1 (cs_TShare q0.2.1) 34,.cells d1 (cs_TShare q0.1) 34,.cells b1 (cs_TShare j0.2.1) 34,.cells Z0 (cs_TShare j0.1) 34]∧Tr E6 [.cells U2 (cs_TShare J0.1) 34,.cells j1 (cs_TShare p0.1) 34,.cells g1 (cs_TShare q0.2.1) 34,.cells d1 (cs_TShare q0.1) 34,.cells b1 (cs_TShare j0.2.1) 34,.cells Z0 (cs_TShare j0.1) 34,.cells P0 [vI k0.fj,vI 2,vI k0.fl,t0] 28,.row w.heap.size 44 (Rep.size TUnit) t0 u0.length H0] P1 [.cells j1 (cs_TShare p0.1) 34,.cells g1 (cs_TShare q0.2.1) 34,.cells d1 (cs_TShare q0.1) 34,.cells b1 (cs_TShare j0.2.1) 34,.cells Z0 (cs_TShare j0.1) 34]) (fun Y0=>Y0) h ?_ ?_
 rintro Y0 P1 ⟨F1,P7⟩ h
 try dsimp only at h
 refine MX.ifb rfl h (fun c3 h=>?_) (fun c3 h=>?_)
 refine Ac<|Ah rfl<|Aa<|Al rfl<|AZ hb0 Tryz.func4 rfl rfl ?_
 cases h
 exact F1.gv
 refine Av<|Ak<|Ac<|Ae rfl<|Ab (FV.neq (i:=j0.2.2) (j:=0) rfl rfl)<|Aa<|MX.ifn rfl h (fun d3 h=>?_) (fun d3 h=>?_)
 refine Av<|Ac<|Ab (AN (vs:=[]) (u:=.agg #[.bool false]) evs_nil (fun w9=>by kernel_rfl))<|Ai .plain rfl (Ap F1 rfl rfl) (fun H9 M0 G1 Q7=>?_)
 refine Ah rfl<|Aa<|Ak<|Ac<|Ae rfl<|Ab (Ax rfl (G1.memA (.tl (.tl (.tl (.tl (.tl .hd)))))))<|Ab (Ax rfl (G1.memA (.tl (.tl (.tl .hd)))))<|Ba (fst:=[]) (cap:=[]) (vs:=[vP M0,.agg ((cs_TShare j0.1)).toArray,.agg ((cs_TShare q0.1)).toArray]) .plain body12 Tryz.func12 rfl rfl rfl rfl (e3 rfl rfl rfl) rfl (fun C7 u2 Q8=>?_)
 refine Ac<|Ai .plain rfl (Ap G1 rfl rfl) (fun I9 W6 b4 R7=>?_)
 refine Ai .plain rfl (Ap b4 rfl rfl) (fun J9 X6 c4 U7=>?_)
 refine Ai .plain rfl (Au zL c4) (fun K9 Y6 s1 V7=>?_)
 refine Aa<|Ac<|Ae rfl<|Ab (Ax rfl (s1.memA (.tl (.tl .hd))))<|Ab (Ax rfl (s1.memA (.tl .hd))) ?_
 obtain ⟨v0,R5,h⟩:=bi h
 refine Be (.tuple #[.agg ((cs_TShare v0.1)).toArray,vI v0.2]) body36 rfl (e2 rfl rfl) (fun w9 hw9=>share_Add_c n _ w9 (s1.hL0 hL hw9) j0.1 q0.1 R5) rfl<|Ab (Af rfl rfl)<|Ab (Af rfl rfl)<|Ba (fst:=[]) (cap:=[]) (vs:=[vP M0,.agg ((cs_TShare v0.1)).toArray,vI v0.2]) .plain body33 Tryz.func33 rfl rfl rfl rfl (e3 rfl rfl rfl) rfl (fun D7 v2 R8=>?_)
 refine Ac<|Ai .plain rfl (Ap s1 rfl rfl) (fun M9 Z6 d4 W7=>?_)
 refine Ai .plain rfl (Au zL d4) (fun P9 b7 H1 X7=>?_)
 refine Aa<|Ak<|Ac<|Ae rfl<|Ab (FV.neq (i:=v0.2) (j:=0) rfl rfl)<|Aa<|MX.ifn rfl h (fun g3 h=>?_) (fun g3 h=>?_)
 refine Av<|Ac<|Ab (Ax rfl (H1.memA (.tl .hd)))<|AK (cs_TShare v0.1) H1 .hd (onesB rfl) (fun Q9 b2 Y7=>?_)
 refine Aa<|Al rfl<|Am (u:=.agg ((cs_TShare v0.1)).toArray) v2 Tryz.func33 rfl (.cons (.many (cs:=(cs_TShare v0.1)) (by kernel_rfl) rfl (b2.memA .hd)) .nil) rfl<|AK (cs_TShare v0.1) b2 (.tl (.tl .hd)) (onesB rfl) (fun R9 Q0 Z7=>?_)
 refine Aa<|Al rfl<|Am (u:=.agg ((cs_TShare v0.1)).toArray) u2 Tryz.func12 rfl (.cons (.many (cs:=(cs_TShare v0.1)) (by kernel_rfl) rfl (Q0.memA (.tl (.tl .hd)))) .nil) rfl ?_
 obtain ⟨Q1,U5,h⟩:=bi h
 refine Be (.agg ((cs_TShare Q1)).toArray) body9 rfl (e2 rfl rfl) (fun w9 hw9=>wardmotelaw29_of_c n _ w9 (Q0.hL0 hL hw9) (0:Int) (1:Int) U5) rfl<|Ab (FV.neqV (xs:=((cs_TShare v0.1)).toArray) (ys:=((cs_TShare Q1)).toArray) rfl rfl (by kernel_rfl) (eqlD_34 v0.1 Q1))<|Ae rfl<|RG.ifn (s:=126) rfl h (fun j3 h=>?_) (fun j3 h=>?_)
 refine AO (Aj rfl)<|AO (Ax rfl (Q0.memA (.tl (.tl (.tl (.tl (.tl (.tl (.tl (.tl (.tl .hd)))))))))))<|AO (Ax rfl (Q0.memA (.tl (.tl (.tl (.tl (.tl (.tl (.tl .hd)))))))))<|Ba (fst:=[]) (cap:=[]) (vs:=[vP M0,.agg ((cs_TShare j0.2.1)).toArray,.agg ((cs_TShare q0.2.1)).toArray]) (.yes rfl rfl) body12 Tryz.func12 rfl rfl rfl rfl (e3 rfl rfl rfl) rfl (fun E7 x2 U8=>?_)
 refine Ac<|Ai .plain rfl (Ap Q0 rfl rfl) (fun V9 c7 g4 b8=>?_)
 refine Ai .plain rfl (Ap g4 rfl rfl) (fun W9 d7 j4 c8=>?_)
 refine Ai .plain rfl (Au zL j4) (fun X9 g7 u1 d8=>?_)
 refine Aa<|Ac<|Ae rfl<|Ab (Ax rfl (u1.memA (.tl (.tl .hd))))<|Ab (Ax rfl (u1.memA (.tl .hd))) ?_
 obtain ⟨x0,V5,h⟩:=bi h
 refine Be (.tuple #[.agg ((cs_TShare x0.1)).toArray,vI x0.2]) body36 rfl (e2 rfl rfl) (fun w9 hw9=>share_Add_c n _ w9 (u1.hL0 hL hw9) j0.2.1 q0.2.1 V5) rfl<|Ab (Af rfl rfl)<|Ab (Af rfl rfl)<|Ba (fst:=[]) (cap:=[]) (vs:=[vP M0,.agg ((cs_TShare x0.1)).toArray,vI x0.2]) .plain body33 Tryz.func33 rfl rfl rfl rfl (e3 rfl rfl rfl) rfl (fun F7 y2 V8=>?_)
 refine Ac<|Ai .plain rfl (Ap u1 rfl rfl) (fun Y9 j7 k4 g8=>?_)
 refine Ai .plain rfl (Au zL k4) (fun Z9 k7 I1 j8=>?_)
 refine Aa<|Ak<|Ac<|Ae rfl<|Ab (FV.neq (i:=x0.2) (j:=0) rfl rfl)<|Aa<|MX.ifn rfl h (fun k3 h=>?_) (fun k3 h=>?_)
 refine Av<|Ac<|Ab (Ax rfl (I1.memA (.tl .hd)))<|AK (cs_TShare x0.1) I1 .hd (onesB rfl) (fun b00 d2 k8=>?_)
 refine Aa<|Al rfl<|Am (u:=.agg ((cs_TShare x0.1)).toArray) y2 Tryz.func33 rfl (.cons (.many (cs:=(cs_TShare x0.1)) (by kernel_rfl) rfl (d2.memA .hd)) .nil) rfl<|AK (cs_TShare x0.1) d2 (.tl (.tl .hd)) (onesB rfl) (fun c00 g0 p8=>?_)
 refine Aa<|Al rfl<|Am (u:=.agg ((cs_TShare x0.1)).toArray) x2 Tryz.func12 rfl (.cons (.many (cs:=(cs_TShare x0.1)) (by kernel_rfl) rfl (g0.memA (.tl (.tl .hd)))) .nil) rfl ?_
 obtain ⟨R1,W5,h⟩:=bi h
 refine RG.callq' (v:=.agg ((cs_TShare R1)).toArray) (fst:=[]) (cap:=[]) (.yes rfl rfl) body9 rfl (e2 rfl rfl) (fun w9 hw9=>wardmotelaw29_of_c n _ w9 (g0.hL0 hL hw9) (1:Int) (1:Int) W5) rfl<|AO (FV.neqV (xs:=((cs_TShare x0.1)).toArray) (ys:=((cs_TShare R1)).toArray) rfl rfl (by kernel_rfl) (eqlD_34 x0.1 R1))<|RG.pf rfl rfl<|Ae rfl<|RG.ifn (s:=134) rfl h (fun p3 h=>?_) (fun p3 h=>?_)
 refine AO (Aj rfl)<|AO (FV.nilCheck rfl)<|RG.fg 0 rfl<|AO (AL rfl ((g0.memA (.tl (.tl (.tl (.tl (.tl (.tl (.tl (.tl (.tl (.tl .hd))))))))))) 0 _ rfl))<|RG.pf rfl rfl<|Aa<|By rfl<|Av<|Ak<|dt 31 tb4_24 (fun c0 d0=>?_)
 refine Ag 0 1 c0 rfl d0 (fun _=>Aj rfl) rfl<|Ag 1 3 c0 rfl d0 (fun _=>FV.eql (i:=p0.2) (j:=7) rfl rfl) rfl<|Ag 2 7 c0 rfl d0 (fun _=>Aj rfl) rfl<|RD.ifd (s:=142) rfl h (fun q3 h=>?_) (fun q3 h=>?_)
 refine RD.val (i:=3) (m' :=15) (W:=2147483616) (tk c0) rfl d0 (.yes rfl rfl) (Ax rfl (g0.memA (.tl (.tl (.tl (.tl (.tl (.tl (.tl (.tl (.tl (.tl (.tl (.tl (.tl (.tl (.tl .hd))))))))))))))))) rfl ?_
 obtain ⟨U1,X5,h⟩:=bi h
 refine BE (i:=4) (m' :=31) (W:=2147483616) (tk c0) rfl d0 (v:=.agg ((cs_TShare U1)).toArray) (fst:=[]) (cap:=[]) (.yes rfl rfl) body9 rfl (e2 rfl rfl) (fun w9 hw9=>wardmotelaw29_of_c n _ w9 (g0.hL0 hL hw9) (0:Int) (1:Int) X5) rfl<|Bv 5 63 c0 rfl d0 (.yes rfl rfl) (fun _=>FV.eqlV (v:=.agg ((cs_TShare j0.1)).toArray) (u:=.agg ((cs_TShare U1)).toArray) rfl rfl (eqlD_34 j0.1 U1)) rfl<|Ag 6 127 c0 rfl d0 (fun _=>BH rfl rfl) rfl<|Ag 7 255 c0 rfl d0 (fun _=>Aj rfl) rfl<|RD.ifd (s:=147) rfl h (fun s3 h=>?_) (fun s3 h=>?_)
 refine Bm 536870911 2 [(8,148),(9,149),(10,150),(11,151),(12,152),(13,153),(14,154),(15,155),(16,156),(17,157),(18,158),(19,159),(20,160),(21,161),(22,162),(23,163),(24,164),(25,165),(26,166),(27,167),(28,168)] (F:=[(147,true)]) (U:=[]) c0 d0 (.cons rfl .nil) .nil ?_
 dsimp only [offS,List.map]
 refine Ag 29 1073741823 c0 rfl d0 (fun _=>BH rfl rfl) rfl<|Ag 30 2147483647 c0 rfl d0 (fun _=>AX rfl) rfl<|AG (dk c0)<|Al rfl<|AZ hb0 Tryz.func4 rfl rfl ?_
 cases h
 exact g0.gv
 refine Bv 8 511 c0 rfl d0 (.yes rfl rfl) (fun _=>Aj rfl) rfl<|Bv 9 1023 c0 rfl d0 (.yes rfl rfl) (fun _=>FV.eql (i:=p0.2) (j:=0) rfl rfl) rfl<|Bv 10 2047 c0 rfl d0 (.yes rfl rfl) (fun _=>Aj rfl) rfl<|RD.ifd (s:=150) rfl h (fun t3 h=>?_) (fun t3 h=>?_)
 obtain ⟨J2,Y5,h⟩:=bi h
 refine BE (i:=11) (m' :=4095) (W:=2147475456) (tk c0) rfl d0 (v:=.agg ((cs_TShare J2)).toArray) (fst:=[]) (cap:=[]) (.yes rfl rfl) body9 rfl (e2 rfl rfl) (fun w9 hw9=>wardmotelaw29_of_c n _ w9 (g0.hL0 hL hw9) (0:Int) (1:Int) Y5) rfl<|RD.val (i:=12) (m' :=8191) (W:=2147475456) (tk c0) rfl d0 (.yes rfl rfl) (Ax rfl (g0.memA (.tl (.tl (.tl (.tl (.tl (.tl (.tl (.tl (.tl (.tl (.tl .hd))))))))))))) rfl ?_
 obtain ⟨J6,Z5,h⟩:=bi h
 refine BE (i:=13) (m' :=16383) (W:=2147467264) (tk c0) rfl d0 (v:=.bool J6) (fst:=[]) (cap:=[]) (.yes rfl rfl) body14 rfl (e2 rfl rfl) (fun w9 hw9=>wardmotelaw29_atMost_c n _ w9 (g0.hL0 hL hw9) J2 p0.1 Z5) rfl<|Bv 14 32767 c0 rfl d0 (.yes rfl rfl) (fun _=>BH rfl rfl) rfl<|Bv 15 65535 c0 rfl d0 (.yes rfl rfl) (fun _=>Aj rfl) rfl<|RD.ifb (s:=155) rfl h (fun u3 h=>?_) (fun u3 h=>?_)
 refine RD.val (i:=16) (m' :=131071) (W:=2147221504) (tk c0) rfl d0 (.yes rfl rfl) (Ax rfl (g0.memA (.tl (.tl (.tl (.tl (.tl (.tl (.tl (.tl (.tl (.tl (.tl .hd))))))))))))) rfl ?_
 obtain ⟨K2,b6,h⟩:=bi h
 refine BE (i:=17) (m' :=262143) (W:=2147221504) (tk c0) rfl d0 (v:=.agg ((cs_TShare K2)).toArray) (fst:=[]) (cap:=[]) (.yes rfl rfl) body9 rfl (e2 rfl rfl) (fun w9 hw9=>wardmotelaw29_of_c n _ w9 (g0.hL0 hL hw9) (1:Int) (1:Int) b6) rfl ?_
 obtain ⟨K6,c6,h⟩:=bi h
 refine BE (i:=18) (m' :=524287) (W:=2146959360) (tk c0) rfl d0 (v:=.bool K6) (fst:=[]) (cap:=[]) (.yes rfl rfl) body14 rfl (e2 rfl rfl) (fun w9 hw9=>wardmotelaw29_atMost_c n _ w9 (g0.hL0 hL hw9) p0.1 K2 c6) rfl<|Bv 19 1048575 c0 rfl d0 (.yes rfl rfl) (fun _=>BH rfl rfl) rfl<|Bv 20 2097151 c0 rfl d0 (.yes rfl rfl) (fun _=>Aj rfl) rfl<|RD.ifb (s:=160) rfl h (fun v3 h=>?_) (fun v3 h=>?_)
 refine RD.val (i:=21) (m' :=4194303) (W:=2021654528) (tk c0) rfl d0 (.yes rfl rfl) (Ax rfl (g0.memA (.tl (.tl (.tl (.tl (.tl (.tl (.tl (.tl (.tl (.tl (.tl .hd))))))))))))) rfl ?_
 obtain ⟨A1,d6,h⟩:=bi h
 refine BE (i:=22) (m' :=8388607) (W:=2122317824) (tk c0) rfl d0 (v:=.agg ((cs_TShare A1)).toArray) (fst:=[]) (cap:=[]) (.yes rfl rfl) body9 rfl (e2 rfl rfl) (fun w9 hw9=>wardmotelaw29_of_c n _ w9 (g0.hL0 hL hw9) (0:Int) (1:Int) d6) rfl<|Bv 23 16777215 c0 rfl d0 (.yes rfl rfl) (fun _=>FV.eqlV (v:=.agg ((cs_TShare p0.1)).toArray) (u:=.agg ((cs_TShare A1)).toArray) rfl rfl (eqlD_34 p0.1 A1)) rfl<|RD.val (i:=24) (m' :=33554431) (W:=2080374784) (tk c0) rfl d0 (.yes rfl rfl) (Ax rfl (g0.memA (.tl (.tl (.tl (.tl (.tl (.tl (.tl (.tl (.tl (.tl (.tl (.tl (.tl (.tl (.tl .hd))))))))))))))))) rfl ?_
 obtain ⟨B1,g6,h⟩:=bi h
 refine BE (i:=25) (m' :=67108863) (W:=2080374784) (tk c0) rfl d0 (v:=.agg ((cs_TShare B1)).toArray) (fst:=[]) (cap:=[]) (.yes rfl rfl) body9 rfl (e2 rfl rfl) (fun w9 hw9=>wardmotelaw29_of_c n _ w9 (g0.hL0 hL hw9) (0:Int) (1:Int) g6) rfl<|Bv 26 134217727 c0 rfl d0 (.yes rfl rfl) (fun _=>FV.eqlV (v:=.agg ((cs_TShare j0.1)).toArray) (u:=.agg ((cs_TShare B1)).toArray) rfl rfl (eqlD_34 j0.1 B1)) rfl<|Bv 27 268435455 c0 rfl d0 (.yes rfl rfl) (fun _=>FV.eqlB (a:=(decide (p0.1 = A1))) (b:=(decide (j0.1 = B1))) Tryz.underlying4 rfl rfl) rfl<|Bv 28 536870911 c0 rfl d0 (.yes rfl rfl) (fun _=>BH rfl rfl) rfl<|Ag 29 1073741823 c0 rfl d0 (fun _=>AS rfl rfl) rfl<|Ag 30 2147483647 c0 rfl d0 (fun _=>AX rfl) rfl<|AG (dk c0)<|Al rfl<|AZ hb0 Tryz.func4 rfl rfl ?_
 cases h
 exact g0.gv
 refine Bm 268435455 3 [(21,161),(22,162),(23,163),(24,164),(25,165),(26,166),(27,167)] (F:=[(160,false)]) (U:=[]) c0 d0 (.cons rfl .nil) .nil ?_
 dsimp only [offS,List.map]
 refine Bv 28 536870911 c0 rfl d0 (.yes rfl rfl) (fun _=>AS rfl rfl) rfl<|Ag 29 1073741823 c0 rfl d0 (fun _=>AS rfl rfl) rfl<|Ag 30 2147483647 c0 rfl d0 (fun _=>AX rfl) rfl<|AG (dk c0)<|Al rfl<|AZ hb0 Tryz.func4 rfl rfl ?_
 cases h
 exact g0.gv
 refine Bm 524287 12 [(16,156),(17,157),(18,158)] (F:=[(155,false)]) (U:=[]) c0 d0 (.cons rfl .nil) .nil ?_
 dsimp only [offS,List.map]
 refine Bv 19 1048575 c0 rfl d0 (.yes rfl rfl) (fun _=>AS rfl rfl) rfl<|Bv 20 2097151 c0 rfl d0 (.yes rfl rfl) (fun _=>Aj rfl) rfl<|Bm 268435455 3 [(21,161),(22,162),(23,163),(24,164),(25,165),(26,166),(27,167)] (F:=[(160,false)]) (U:=[]) c0 d0 (.cons rfl .nil) .nil ?_
 dsimp only [offS,List.map]
 refine Bv 28 536870911 c0 rfl d0 (.yes rfl rfl) (fun _=>AS rfl rfl) rfl<|Ag 29 1073741823 c0 rfl d0 (fun _=>AS rfl rfl) rfl<|Ag 30 2147483647 c0 rfl d0 (fun _=>AX rfl) rfl<|AG (dk c0)<|Al rfl<|AZ hb0 Tryz.func4 rfl rfl ?_
 cases h
 exact g0.gv
 refine Bm 16383 17 [(11,151),(12,152),(13,153)] (F:=[(150,false)]) (U:=[]) c0 d0 (.cons rfl .nil) .nil ?_
 dsimp only [offS,List.map]
 refine Bv 14 32767 c0 rfl d0 (.yes rfl rfl) (fun _=>AS rfl rfl) rfl<|Bv 15 65535 c0 rfl d0 (.yes rfl rfl) (fun _=>Aj rfl) rfl<|Bm 524287 12 [(16,156),(17,157),(18,158)] (F:=[(155,false)]) (U:=[]) c0 d0 (.cons rfl .nil) .nil ?_
 dsimp only [offS,List.map]
 refine Bv 19 1048575 c0 rfl d0 (.yes rfl rfl) (fun _=>AS rfl rfl) rfl<|Bv 20 2097151 c0 rfl d0 (.yes rfl rfl) (fun _=>Aj rfl) rfl<|Bm 268435455 3 [(21,161),(22,162),(23,163),(24,164),(25,165),(26,166),(27,167)] (F:=[(160,false)]) (U:=[]) c0 d0 (.cons rfl .nil) .nil ?_
 dsimp only [offS,List.map]
 refine Bv 28 536870911 c0 rfl d0 (.yes rfl rfl) (fun _=>AS rfl rfl) rfl<|Ag 29 1073741823 c0 rfl d0 (fun _=>AS rfl rfl) rfl<|Ag 30 2147483647 c0 rfl d0 (fun _=>AX rfl) rfl<|AG (dk c0)<|Al rfl<|AZ hb0 Tryz.func4 rfl rfl ?_
 cases h
 exact g0.gv
 refine Bm 63 25 [(3,143),(4,144),(5,145)] (F:=[(142,false)]) (U:=[]) c0 d0 (.cons rfl .nil) .nil ?_
 dsimp only [offS,List.map]
 refine Ag 6 127 c0 rfl d0 (fun _=>AS rfl rfl) rfl<|Ag 7 255 c0 rfl d0 (fun _=>Aj rfl) rfl<|Bv 8 511 c0 rfl d0 (.yes rfl rfl) (fun _=>Aj rfl) rfl<|Bv 9 1023 c0 rfl d0 (.yes rfl rfl) (fun _=>FV.eql (i:=p0.2) (j:=0) rfl rfl) rfl<|Bv 10 2047 c0 rfl d0 (.yes rfl rfl) (fun _=>Aj rfl) rfl<|RD.ifd (s:=150) rfl h (fun x3 h=>?_) (fun x3 h=>?_)
 obtain ⟨M2,j6,h⟩:=bi h
 refine BE (i:=11) (m' :=4095) (W:=2147475456) (tk c0) rfl d0 (v:=.agg ((cs_TShare M2)).toArray) (fst:=[]) (cap:=[]) (.yes rfl rfl) body9 rfl (e2 rfl rfl) (fun w9 hw9=>wardmotelaw29_of_c n _ w9 (g0.hL0 hL hw9) (0:Int) (1:Int) j6) rfl<|RD.val (i:=12) (m' :=8191) (W:=2147475456) (tk c0) rfl d0 (.yes rfl rfl) (Ax rfl (g0.memA (.tl (.tl (.tl (.tl (.tl (.tl (.tl (.tl (.tl (.tl (.tl .hd))))))))))))) rfl ?_
 obtain ⟨M6,k6,h⟩:=bi h
 refine BE (i:=13) (m' :=16383) (W:=2147467264) (tk c0) rfl d0 (v:=.bool M6) (fst:=[]) (cap:=[]) (.yes rfl rfl) body14 rfl (e2 rfl rfl) (fun w9 hw9=>wardmotelaw29_atMost_c n _ w9 (g0.hL0 hL hw9) M2 p0.1 k6) rfl<|Bv 14 32767 c0 rfl d0 (.yes rfl rfl) (fun _=>BH rfl rfl) rfl<|Bv 15 65535 c0 rfl d0 (.yes rfl rfl) (fun _=>Aj rfl) rfl<|RD.ifb (s:=155) rfl h (fun y3 h=>?_) (fun y3 h=>?_)
 refine RD.val (i:=16) (m' :=131071) (W:=2147221504) (tk c0) rfl d0 (.yes rfl rfl) (Ax rfl (g0.memA (.tl (.tl (.tl (.tl (.tl (.tl (.tl (.tl (.tl (.tl (.tl .hd))))))))))))) rfl ?_
 obtain ⟨P2,p6,h⟩:=bi h
 refine BE (i:=17) (m' :=262143) (W:=2147221504) (tk c0) rfl d0 (v:=.agg ((cs_TShare P2)).toArray) (fst:=[]) (cap:=[]) (.yes rfl rfl) body9 rfl (e2 rfl rfl) (fun w9 hw9=>wardmotelaw29_of_c n _ w9 (g0.hL0 hL hw9) (1:Int) (1:Int) p6) rfl ?_
 obtain ⟨P6,q6,h⟩:=bi h
 refine BE (i:=18) (m' :=524287) (W:=2146959360) (tk c0) rfl d0 (v:=.bool P6) (fst:=[]) (cap:=[]) (.yes rfl rfl) body14 rfl (e2 rfl rfl) (fun w9 hw9=>wardmotelaw29_atMost_c n _ w9 (g0.hL0 hL hw9) p0.1 P2 q6) rfl<|Bv 19 1048575 c0 rfl d0 (.yes rfl rfl) (fun _=>BH rfl rfl) rfl<|Bv 20 2097151 c0 rfl d0 (.yes rfl rfl) (fun _=>Aj rfl) rfl<|RD.ifb (s:=160) rfl h (fun z3 h=>?_) (fun z3 h=>?_)
 refine RD.val (i:=21) (m' :=4194303) (W:=2021654528) (tk c0) rfl d0 (.yes rfl rfl) (Ax rfl (g0.memA (.tl (.tl (.tl (.tl (.tl (.tl (.tl (.tl (.tl (.tl (.tl .hd))))))))))))) rfl ?_
 obtain ⟨C1,s6,h⟩:=bi h
 refine BE (i:=22) (m' :=8388607) (W:=2122317824) (tk c0) rfl d0 (v:=.agg ((cs_TShare C1)).toArray) (fst:=[]) (cap:=[]) (.yes rfl rfl) body9 rfl (e2 rfl rfl) (fun w9 hw9=>wardmotelaw29_of_c n _ w9 (g0.hL0 hL hw9) (0:Int) (1:Int) s6) rfl<|Bv 23 16777215 c0 rfl d0 (.yes rfl rfl) (fun _=>FV.eqlV (v:=.agg ((cs_TShare p0.1)).toArray) (u:=.agg ((cs_TShare C1)).toArray) rfl rfl (eqlD_34 p0.1 C1)) rfl<|RD.val (i:=24) (m' :=33554431) (W:=2080374784) (tk c0) rfl d0 (.yes rfl rfl) (Ax rfl (g0.memA (.tl (.tl (.tl (.tl (.tl (.tl (.tl (.tl (.tl (.tl (.tl (.tl (.tl (.tl (.tl .hd))))))))))))))))) rfl ?_
 obtain ⟨D1,t6,h⟩:=bi h
 refine BE (i:=25) (m' :=67108863) (W:=2080374784) (tk c0) rfl d0 (v:=.agg ((cs_TShare D1)).toArray) (fst:=[]) (cap:=[]) (.yes rfl rfl) body9 rfl (e2 rfl rfl) (fun w9 hw9=>wardmotelaw29_of_c n _ w9 (g0.hL0 hL hw9) (0:Int) (1:Int) t6) rfl<|Bv 26 134217727 c0 rfl d0 (.yes rfl rfl) (fun _=>FV.eqlV (v:=.agg ((cs_TShare j0.1)).toArray) (u:=.agg ((cs_TShare D1)).toArray) rfl rfl (eqlD_34 j0.1 D1)) rfl<|Bv 27 268435455 c0 rfl d0 (.yes rfl rfl) (fun _=>FV.eqlB (a:=(decide (p0.1 = C1))) (b:=(decide (j0.1 = D1))) Tryz.underlying4 rfl rfl) rfl<|Bv 28 536870911 c0 rfl d0 (.yes rfl rfl) (fun _=>BH rfl rfl) rfl<|Ag 29 1073741823 c0 rfl d0 (fun _=>AS rfl rfl) rfl<|Ag 30 2147483647 c0 rfl d0 (fun _=>AX rfl) rfl<|AG (dk c0)<|Al rfl<|AZ hb0 Tryz.func4 rfl rfl ?_
 cases h
 exact g0.gv
 refine Bm 268435455 3 [(21,161),(22,162),(23,163),(24,164),(25,165),(26,166),(27,167)] (F:=[(160,false)]) (U:=[]) c0 d0 (.cons rfl .nil) .nil ?_
 dsimp only [offS,List.map]
 refine Bv 28 536870911 c0 rfl d0 (.yes rfl rfl) (fun _=>AS rfl rfl) rfl<|Ag 29 1073741823 c0 rfl d0 (fun _=>AS rfl rfl) rfl<|Ag 30 2147483647 c0 rfl d0 (fun _=>AX rfl) rfl<|AG (dk c0)<|Al rfl<|AZ hb0 Tryz.func4 rfl rfl ?_
 cases h
 exact g0.gv
 refine Bm 524287 12 [(16,156),(17,157),(18,158)] (F:=[(155,false)]) (U:=[]) c0 d0 (.cons rfl .nil) .nil ?_
 dsimp only [offS,List.map]
 refine Bv 19 1048575 c0 rfl d0 (.yes rfl rfl) (fun _=>AS rfl rfl) rfl<|Bv 20 2097151 c0 rfl d0 (.yes rfl rfl) (fun _=>Aj rfl) rfl<|Bm 268435455 3 [(21,161),(22,162),(23,163),(24,164),(25,165),(26,166),(27,167)] (F:=[(160,false)]) (U:=[]) c0 d0 (.cons rfl .nil) .nil ?_
 dsimp only [offS,List.map]
 refine Bv 28 536870911 c0 rfl d0 (.yes rfl rfl) (fun _=>AS rfl rfl) rfl<|Ag 29 1073741823 c0 rfl d0 (fun _=>AS rfl rfl) rfl<|Ag 30 2147483647 c0 rfl d0 (fun _=>AX rfl) rfl<|AG (dk c0)<|Al rfl<|AZ hb0 Tryz.func4 rfl rfl ?_
 cases h
 exact g0.gv
 refine Bm 16383 17 [(11,151),(12,152),(13,153)] (F:=[(150,false)]) (U:=[]) c0 d0 (.cons rfl .nil) .nil ?_
 dsimp only [offS,List.map]
 refine Bv 14 32767 c0 rfl d0 (.yes rfl rfl) (fun _=>AS rfl rfl) rfl<|Bv 15 65535 c0 rfl d0 (.yes rfl rfl) (fun _=>Aj rfl) rfl<|Bm 524287 12 [(16,156),(17,157),(18,158)] (F:=[(155,false)]) (U:=[]) c0 d0 (.cons rfl .nil) .nil ?_
 dsimp only [offS,List.map]
 refine Bv 19 1048575 c0 rfl d0 (.yes rfl rfl) (fun _=>AS rfl rfl) rfl<|Bv 20 2097151 c0 rfl d0 (.yes rfl rfl) (fun _=>Aj rfl) rfl<|Bm 268435455 3 [(21,161),(22,162),(23,163),(24,164),(25,165),(26,166),(27,167)] (F:=[(160,false)]) (U:=[]) c0 d0 (.cons rfl .nil) .nil ?_
 dsimp only [offS,List.map]
 refine Bv 28 536870911 c0 rfl d0 (.yes rfl rfl) (fun _=>AS rfl rfl) rfl<|Ag 29 1073741823 c0 rfl d0 (fun _=>AS rfl rfl) rfl<|Ag 30 2147483647 c0 rfl d0 (fun _=>AX rfl) rfl<|AG (dk c0)<|Al rfl<|AZ hb0 Tryz.func4 rfl rfl ?_
 cases h
 exact g0.gv
 refine AD<|AD<|AD<|AD<|BB rfl rfl<|Aa<|AU rfl<|Ac<|Ah rfl<|Aa<|Al rfl<|AZ hb0 Tryz.func4 rfl rfl ?_
 cases h
 exact g0.gv
 refine Ac<|Ae rfl<|Ab (FV.nilCheck rfl)<|Bc 0 rfl<|BG .plain (Bj (j:=0) (old:=[.bool false]) (news:=[.bool true]) (new' :=[.bool true]) I1 (.tl (.tl (.tl (.tl (.tl (.tl (.tl (.tl (.tl (.tl .hd)))))))))) rfl rfl rfl rfl rfl rfl (o1 rfl) rfl) (fun g00 g2 q8=>?_)
 refine Aa<|Ac ?_
 obtain ⟨E0,u6,h⟩:=bi h
 refine Be (.agg ((cs_TShare E0)).toArray) body9 rfl (e2 rfl rfl) (fun w9 hw9=>wardmotelaw29_of_c n _ w9 (g2.hL0 hL hw9) (0:Int) (1:Int) u6) rfl<|AK (cs_TShare E0) g2 .hd (onesB rfl) (fun j00 j2 s8=>?_)
 refine Aa<|Al rfl<|Am (u:=.agg ((cs_TShare E0)).toArray) y2 Tryz.func33 rfl (.cons (.many (cs:=(cs_TShare E0)) (by kernel_rfl) rfl (j2.memA .hd)) .nil) rfl<|AK (cs_TShare E0) j2 (.tl (.tl .hd)) (onesB rfl) (fun k00 V0 t8=>?_)
 refine Aa<|Al rfl<|Am (u:=.agg ((cs_TShare E0)).toArray) x2 Tryz.func12 rfl (.cons (.many (cs:=(cs_TShare E0)) (by kernel_rfl) rfl (V0.memA (.tl (.tl .hd)))) .nil) rfl ?_
 obtain ⟨V1,v6,h⟩:=bi h
 refine RG.callq' (v:=.agg ((cs_TShare V1)).toArray) (fst:=[]) (cap:=[]) (.yes rfl rfl) body9 rfl (e2 rfl rfl) (fun w9 hw9=>wardmotelaw29_of_c n _ w9 (V0.hL0 hL hw9) (1:Int) (1:Int) v6) rfl<|AO (FV.neqV (xs:=((cs_TShare E0)).toArray) (ys:=((cs_TShare V1)).toArray) rfl rfl (by kernel_rfl) (eqlD_34 E0 V1))<|RG.pf rfl rfl<|Ae rfl<|RG.ifn (s:=134) rfl h (fun A3 h=>?_) (fun A3 h=>?_)
 refine AO (Aj rfl)<|AO (FV.nilCheck rfl)<|RG.fg 0 rfl<|AO (AL rfl ((V0.memA (.tl (.tl (.tl (.tl (.tl (.tl (.tl (.tl (.tl (.tl .hd))))))))))) 0 _ rfl))<|RG.pf rfl rfl<|Aa<|AU rfl<|Ac<|Ah rfl<|Aa<|Al rfl<|AZ hb0 Tryz.func4 rfl rfl ?_
 cases h
 exact V0.gv
 refine AD<|AD<|AD<|AD<|BB rfl rfl<|Aa<|AU rfl<|Ac<|Ah rfl<|Aa<|Al rfl<|AZ hb0 Tryz.func4 rfl rfl ?_
 cases h
 exact V0.gv
 refine AD<|AD<|AD<|AD<|AD<|AD<|BB rfl rfl<|Ae rfl<|AD<|AD<|AD<|AD<|BB rfl rfl<|Aa<|AU rfl<|Ac<|Ah rfl<|Aa<|Al rfl<|AZ hb0 Tryz.func4 rfl rfl ?_
 cases h
 exact Q0.gv
 refine Ac<|Ae rfl<|Ab (FV.nilCheck rfl)<|Bc 0 rfl<|BG .plain (Bj (j:=0) (old:=[.bool false]) (news:=[.bool true]) (new' :=[.bool true]) H1 (.tl (.tl (.tl (.tl (.tl .hd))))) rfl rfl rfl rfl rfl rfl (o1 rfl) rfl) (fun p00 k2 v8=>?_)
 refine Aa<|Ac ?_
 obtain ⟨F0,x6,h⟩:=bi h
 refine Be (.agg ((cs_TShare F0)).toArray) body9 rfl (e2 rfl rfl) (fun w9 hw9=>wardmotelaw29_of_c n _ w9 (k2.hL0 hL hw9) (0:Int) (1:Int) x6) rfl<|AK (cs_TShare F0) k2 .hd (onesB rfl) (fun q00 p2 x8=>?_)
 refine Aa<|Al rfl<|Am (u:=.agg ((cs_TShare F0)).toArray) v2 Tryz.func33 rfl (.cons (.many (cs:=(cs_TShare F0)) (by kernel_rfl) rfl (p2.memA .hd)) .nil) rfl<|AK (cs_TShare F0) p2 (.tl (.tl .hd)) (onesB rfl) (fun s00 R0 y8=>?_)
 refine Aa<|Al rfl<|Am (u:=.agg ((cs_TShare F0)).toArray) u2 Tryz.func12 rfl (.cons (.many (cs:=(cs_TShare F0)) (by kernel_rfl) rfl (R0.memA (.tl (.tl .hd)))) .nil) rfl ?_
 obtain ⟨W1,y6,h⟩:=bi h
 refine Be (.agg ((cs_TShare W1)).toArray) body9 rfl (e2 rfl rfl) (fun w9 hw9=>wardmotelaw29_of_c n _ w9 (R0.hL0 hL hw9) (0:Int) (1:Int) y6) rfl<|Ab (FV.neqV (xs:=((cs_TShare F0)).toArray) (ys:=((cs_TShare W1)).toArray) rfl rfl (by kernel_rfl) (eqlD_34 F0 W1))<|Ae rfl<|RG.ifn (s:=126) rfl h (fun B3 h=>?_) (fun B3 h=>?_)
 refine AO (Aj rfl)<|AO (Ax rfl (R0.memA (.tl (.tl (.tl (.tl (.tl (.tl (.tl (.tl (.tl .hd)))))))))))<|AO (Ax rfl (R0.memA (.tl (.tl (.tl (.tl (.tl (.tl (.tl .hd)))))))))<|Ba (fst:=[]) (cap:=[]) (vs:=[vP M0,.agg ((cs_TShare j0.2.1)).toArray,.agg ((cs_TShare q0.2.1)).toArray]) (.yes rfl rfl) body12 Tryz.func12 rfl rfl rfl rfl (e3 rfl rfl rfl) rfl (fun G7 z2 W8=>?_)
 refine Ac<|Ai .plain rfl (Ap R0 rfl rfl) (fun t00 p7 q4 z8=>?_)
 refine Ai .plain rfl (Ap q4 rfl rfl) (fun u00 q7 s4 A8=>?_)
 refine Ai .plain rfl (Au zL s4) (fun v00 s7 x1 B8=>?_)
 refine Aa<|Ac<|Ae rfl<|Ab (Ax rfl (x1.memA (.tl (.tl .hd))))<|Ab (Ax rfl (x1.memA (.tl .hd))) ?_
 obtain ⟨y0,z6,h⟩:=bi h
 refine Be (.tuple #[.agg ((cs_TShare y0.1)).toArray,vI y0.2]) body36 rfl (e2 rfl rfl) (fun w9 hw9=>share_Add_c n _ w9 (x1.hL0 hL hw9) j0.2.1 q0.2.1 z6) rfl<|Ab (Af rfl rfl)<|Ab (Af rfl rfl)<|Ba (fst:=[]) (cap:=[]) (vs:=[vP M0,.agg ((cs_TShare y0.1)).toArray,vI y0.2]) .plain body33 Tryz.func33 rfl rfl rfl rfl (e3 rfl rfl rfl) rfl (fun H7 A2 X8=>?_)
 refine Ac<|Ai .plain rfl (Ap x1 rfl rfl) (fun x00 t7 t4 C8=>?_)
 refine Ai .plain rfl (Au zL t4) (fun y00 u7 J1 D8=>?_)
 refine Aa<|Ak<|Ac<|Ae rfl<|Ab (FV.neq (i:=y0.2) (j:=0) rfl rfl)<|Aa<|MX.ifn rfl h (fun C3 h=>?_) (fun C3 h=>?_)
 refine Av<|Ac<|Ab (Ax rfl (J1.memA (.tl .hd)))<|AK (cs_TShare y0.1) J1 .hd (onesB rfl) (fun z00 q2 E8=>?_)
 refine Aa<|Al rfl<|Am (u:=.agg ((cs_TShare y0.1)).toArray) A2 Tryz.func33 rfl (.cons (.many (cs:=(cs_TShare y0.1)) (by kernel_rfl) rfl (q2.memA .hd)) .nil) rfl<|AK (cs_TShare y0.1) q2 (.tl (.tl .hd)) (onesB rfl) (fun A00 W0 F8=>?_)
 refine Aa<|Al rfl<|Am (u:=.agg ((cs_TShare y0.1)).toArray) z2 Tryz.func12 rfl (.cons (.many (cs:=(cs_TShare y0.1)) (by kernel_rfl) rfl (W0.memA (.tl (.tl .hd)))) .nil) rfl ?_
 obtain ⟨X1,A6,h⟩:=bi h
 refine RG.callq' (v:=.agg ((cs_TShare X1)).toArray) (fst:=[]) (cap:=[]) (.yes rfl rfl) body9 rfl (e2 rfl rfl) (fun w9 hw9=>wardmotelaw29_of_c n _ w9 (W0.hL0 hL hw9) (1:Int) (1:Int) A6) rfl<|AO (FV.neqV (xs:=((cs_TShare y0.1)).toArray) (ys:=((cs_TShare X1)).toArray) rfl rfl (by kernel_rfl) (eqlD_34 y0.1 X1))<|RG.pf rfl rfl<|Ae rfl<|RG.ifn (s:=134) rfl h (fun D3 h=>?_) (fun D3 h=>?_)
 refine AO (Aj rfl)<|AO (FV.nilCheck rfl)<|RG.fg 0 rfl<|AO (AL rfl ((W0.memA (.tl (.tl (.tl (.tl (.tl (.tl (.tl (.tl (.tl (.tl .hd))))))))))) 0 _ rfl))<|RG.pf rfl rfl<|Aa<|AU rfl<|Ac<|Ah rfl<|Aa<|Al rfl<|AZ hb0 Tryz.func4 rfl rfl ?_
 cases h
 exact W0.gv
 refine AD<|AD<|AD<|AD<|BB rfl rfl<|Aa<|AU rfl<|Ac<|Ah rfl<|Aa<|Al rfl<|AZ hb0 Tryz.func4 rfl rfl ?_
 cases h
 exact W0.gv
 refine Ac<|Ae rfl<|Ab (FV.nilCheck rfl)<|Bc 0 rfl<|BG .plain (Bj (j:=0) (old:=[.bool true]) (news:=[.bool true]) (new' :=[.bool true]) J1 (.tl (.tl (.tl (.tl (.tl (.tl (.tl (.tl (.tl (.tl .hd)))))))))) rfl rfl rfl rfl rfl rfl (o1 rfl) rfl) (fun B00 s2 G8=>?_)
 refine Aa<|Ac ?_
 obtain ⟨G0,B6,h⟩:=bi h
 refine Be (.agg ((cs_TShare G0)).toArray) body9 rfl (e2 rfl rfl) (fun w9 hw9=>wardmotelaw29_of_c n _ w9 (s2.hL0 hL hw9) (0:Int) (1:Int) B6) rfl<|AK (cs_TShare G0) s2 .hd (onesB rfl) (fun C00 t2 H8=>?_)
 refine Aa<|Al rfl<|Am (u:=.agg ((cs_TShare G0)).toArray) A2 Tryz.func33 rfl (.cons (.many (cs:=(cs_TShare G0)) (by kernel_rfl) rfl (t2.memA .hd)) .nil) rfl<|AK (cs_TShare G0) t2 (.tl (.tl .hd)) (onesB rfl) (fun D00 X0 I8=>?_)
 refine Aa<|Al rfl<|Am (u:=.agg ((cs_TShare G0)).toArray) z2 Tryz.func12 rfl (.cons (.many (cs:=(cs_TShare G0)) (by kernel_rfl) rfl (X0.memA (.tl (.tl .hd)))) .nil) rfl ?_
 obtain ⟨Y1,C6,h⟩:=bi h
 refine RG.callq' (v:=.agg ((cs_TShare Y1)).toArray) (fst:=[]) (cap:=[]) (.yes rfl rfl) body9 rfl (e2 rfl rfl) (fun w9 hw9=>wardmotelaw29_of_c n _ w9 (X0.hL0 hL hw9) (1:Int) (1:Int) C6) rfl<|AO (FV.neqV (xs:=((cs_TShare G0)).toArray) (ys:=((cs_TShare Y1)).toArray) rfl rfl (by kernel_rfl) (eqlD_34 G0 Y1))<|RG.pf rfl rfl<|Ae rfl<|RG.ifn (s:=134) rfl h (fun E3 h=>?_) (fun E3 h=>?_)
 refine AO (Aj rfl)<|AO (FV.nilCheck rfl)<|RG.fg 0 rfl<|AO (AL rfl ((X0.memA (.tl (.tl (.tl (.tl (.tl (.tl (.tl (.tl (.tl (.tl .hd))))))))))) 0 _ rfl))<|RG.pf rfl rfl<|Aa<|AU rfl<|Ac<|Ah rfl<|Aa<|Al rfl<|AZ hb0 Tryz.func4 rfl rfl ?_
 cases h
 exact X0.gv
 refine AD<|AD<|AD<|AD<|BB rfl rfl<|Aa<|AU rfl<|Ac<|Ah rfl<|Aa<|Al rfl<|AZ hb0 Tryz.func4 rfl rfl ?_
 cases h
 exact X0.gv
 refine AD<|AD<|AD<|AD<|AD<|AD<|BB rfl rfl<|Ae rfl<|AD<|AD<|AD<|AD<|BB rfl rfl<|Aa<|AU rfl<|Ac<|Ah rfl<|Aa<|Al rfl<|AZ hb0 Tryz.func4 rfl rfl ?_
 cases h
 exact R0.gv
 refine Ac<|Ae rfl<|Ab (FV.eql (i:=j0.2.2) (j:=7) rfl rfl)<|Ah rfl<|Aa<|Al rfl<|AZ hb0 Tryz.func4 rfl rfl ?_
 cases h
 exact F1.gv
 intro U6 U0 h
 try dsimp only at h
 refine Ao<|Ae rfl<|Ae rfl<|Ab (FV.neq (i:=j0.2.2) (j:=q0.2.2) rfl rfl)<|Ae rfl<|RG.ifn (s:=95) rfl h (fun F3 h=>?_) (fun F3 h=>?_)
 refine AO (Aj rfl)<|AO (Aj rfl)<|AO (FV.neq (i:=p0.2) (j:=J0.2) rfl rfl)<|RG.pf rfl rfl<|Ae rfl<|RG.ifn (s:=100) rfl h (fun G3 h=>?_) (fun G3 h=>?_)
 refine AO (Ax rfl (A0.memA (.tl .hd)))<|AO (Ax rfl (A0.memA .hd))<|AO (FV.neqV (xs:=((cs_TShare p0.1)).toArray) (ys:=((cs_TShare J0.1)).toArray) rfl rfl (by kernel_rfl) (eqlD_34 p0.1 J0.1))<|RG.pf rfl rfl<|Ae rfl<|RG.ifn (s:=105) rfl h (fun H3 h=>?_) (fun H3 h=>?_)
 refine AO (Aj rfl)<|AO (FV.neq (i:=j0.2.2) (j:=0) rfl rfl)<|AO (Aj rfl)<|RG.ifn (s:=108) rfl h (fun I3 h=>?_) (fun I3 h=>?_)
 refine AD<|AD<|AD<|AO (AS rfl rfl)<|RG.pf rfl rfl<|Aa ?_
 obtain ⟨u4,V4⟩:=AM A0 (.one (.tl .hd) (.one (.tl .hd) (.one (.tl .hd) (.one (.tl .hd) (.one (.tl .hd) .done)))))
 exact U0 false _ _ ⟨rfl,rfl,rfl,rfl,rfl,rfl,rfl,rfl,trivial⟩ ⟨u4,V4⟩ h
 refine AO (Aj rfl)<|AO (Aj rfl)<|AO (FV.neq (i:=p0.2) (j:=j0.2.2) rfl rfl)<|AO (BH rfl rfl)<|RG.pf rfl rfl<|Aa ?_
 obtain ⟨v4,W4⟩:=AM A0 (.one (.tl .hd) (.one (.tl .hd) (.one (.tl .hd) (.one (.tl .hd) (.one (.tl .hd) .done)))))
 exact U0 (!(decide (p0.2 = j0.2.2))) _ _ ⟨rfl,rfl,rfl,rfl,rfl,rfl,rfl,rfl,trivial⟩ ⟨v4,W4⟩ h
 refine AD<|AD<|AD<|RG.un<|RG.un<|RG.un<|AD<|BB rfl rfl<|Aa ?_
 obtain ⟨x4,X4⟩:=AM A0 (.one (.tl .hd) (.one (.tl .hd) (.one (.tl .hd) (.one (.tl .hd) (.one (.tl .hd) .done)))))
 exact U0 true _ _ ⟨rfl,rfl,rfl,rfl,rfl,rfl,rfl,rfl,trivial⟩ ⟨x4,X4⟩ h
 refine AD<|AD<|AD<|BB rfl rfl<|Ae rfl<|AD<|AD<|AD<|RG.un<|RG.un<|RG.un<|AD<|BB rfl rfl<|Aa ?_
 obtain ⟨y4,Y4⟩:=AM A0 (.one (.tl .hd) (.one (.tl .hd) (.one (.tl .hd) (.one (.tl .hd) (.one (.tl .hd) .done)))))
 exact U0 true _ _ ⟨rfl,rfl,rfl,rfl,rfl,rfl,rfl,rfl,trivial⟩ ⟨y4,Y4⟩ h
 refine AD<|AD<|AD<|BB rfl rfl<|Ae rfl<|AD<|AD<|AD<|BB rfl rfl<|Ae rfl<|AD<|AD<|AD<|RG.un<|RG.un<|RG.un<|AD<|BB rfl rfl<|Aa ?_
 obtain ⟨z4,Z4⟩:=AM A0 (.one (.tl .hd) (.one (.tl .hd) (.one (.tl .hd) (.one (.tl .hd) (.one (.tl .hd) .done)))))
 exact U0 true _ _ ⟨rfl,rfl,rfl,rfl,rfl,rfl,rfl,rfl,trivial⟩ ⟨z4,Z4⟩ h
 refine Ac<|Ah rfl<|Aa<|Al rfl<|AZ hb0 Tryz.func4 rfl rfl ?_
 cases h
 exact I0.gv
end Go.Proofs.YtbgcdbblaadokaaGreatDoor
