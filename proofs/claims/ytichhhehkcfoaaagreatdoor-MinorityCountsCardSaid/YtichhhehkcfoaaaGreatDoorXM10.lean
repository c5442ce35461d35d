/- Functions of the program, and what they give: part 10. -/
import Derived.Test.YtichhhehkcfoaaaGreatDoorXM9
namespace Go.Proofs.YtichhhehkcfoaaaGreatDoor
open Go Go.RowKit
set_option maxRecDepth 4000
set_option maxHeartbeats 4000000

def tb3_15:List (Nat × Nat × Nat):=[(0,618970019642690137449562112,0),(0,1237940039285380274899124224,4194304),(3,2475880078570760549798248448,1856910058928070412348686336),(4,4951760157141521099596496896,2475880078570760549798248448),(12,9903520314283042199192993792,4951760157141521099596496896),(16,19807040628566084398385987584,9903520314283042199197188096),(16,39614081257132168796771975168,9903520314283042199192993792),(112,79228162514264337593543950336,69324642199981295394350956544),(144,158456325028528675187087900672,89131682828547379792736944128),(272,316912650057057350374175801344,168359845342811717386280894464)]
def tb3_17:List (Nat × Nat × Nat):=[(0,633825300114114700748351602688,524288),(0,1267650600228229401496703205376,1048576),(0,2535301200456458802993406410752,524288),(0,5070602400912917605986812821504,4194304),(0,10141204801825835211973625643008,131072),(0,20282409603651670423947251286016,2097152),(48,40564819207303340847894502572032,30423614405477505635920876929024),(64,81129638414606681695789005144064,40564819207303340847894502572032),(128,162259276829213363391578010288128,81129638414606681695789005144064),(268,324518553658426726783156020576256,169865180430582739800558229520384),(515,649037107316853453566312041152512,326420029558769070885401075384320),(2047,0,649037107316853453566312042201088)]
def tb3_25:List (Nat × Nat × Nat):=[(0,85070591730234615865843651857942052864,256),(1,170141183460469231731687303715884105728,85070591730234615865843651857942052864),(0,340282366920938463463374607431768211456,512),(6,680564733841876926926749214863536422912,340282366920938463463374607431768211456),(0,67108864,0),(0,134217728,0),(59,0,170141183460469231731687303715951214592),(127,0,680564733841876926926749214863670640640)]
def tb3_30:List (Nat × Nat × Nat):=[(0,11417981541647679048466287755595961091061972992,524288),(1,22835963083295358096932575511191922182123945984,11417981541647679048466287755595961091061972992),(2,45671926166590716193865151022383844364247891968,22835963083295358096932575511191922182123945984),(4,91343852333181432387730302044767688728495783936,45671926166590716193865151022383844364247891968),(8,182687704666362864775460604089535377456991567872,91343852333181432387730302044767688728495783936),(16,365375409332725729550921208179070754913983135744,182687704666362864775460604089535377456992616448),(16,730750818665451459101842416358141509827966271488,182687704666362864775460604089535377456999956480),(80,1461501637330902918203684832716283019655932542976,913438523331814323877303020447676887284957839360),(176,2923003274661805836407369665432566039311865085952,2009564751329991512530066644984889152026907246592),(272,5846006549323611672814739330865132078623730171904,3105690979328168701182830269522101416768856653824),(640,11692013098647223345629478661730264157247460343808,5846006549323611672814739330865132078623730171904),(1024,23384026197294446691258957323460528314494920687616,11692013098647223345629478661730264157247460409344),(3072,46768052394588893382517914646921056628989841375232,35076039295941670036888435985190792471742381031424),(5120,93536104789177786765035829293842113257979682750464,58460065493236116728147393308651320786237301719040),(9216,187072209578355573530071658587684226515959365500928,93536104789177786765035829293842113257979682750464),(16384,374144419156711147060143317175368453031918731001856,187072209578355573530071658587684226515959365763072),(49152,748288838313422294120286634350736906063837462003712,561216628735066720590214975763052679547878096502784),(81920,1496577676626844588240573268701473812127674924007424,935361047891777867650358292938421132579796827504640)]
def tb3_38:List (Nat × Nat × Nat):=[(0,6129982163463555433433388108601236734474956488734408704,536870912),(1,12259964326927110866866776217202473468949912977468817408,6129982163463555433433388108601236734474956488734408704),(2,24519928653854221733733552434404946937899825954937634816,12259964326927110866866776217202473468949912977468817408),(4,49039857307708443467467104868809893875799651909875269632,24519928653854221733733552434404946937899825954937634816),(4,98079714615416886934934209737619787751599303819750539264,24519928653854221733733552434404946937899825954937643008),(4,196159429230833773869868419475239575503198607639501078528,24519928653854221733733552434404946937899825954937636864),(4,392318858461667547739736838950479151006397215279002157056,24519928653854221733733552434404946937899825954937638912),(4,784637716923335095479473677900958302012794430558004314112,24519928653854221733733552434404946937899825954937651200),(12,1569275433846670190958947355801916604025588861116008628224,24519928653854221733733552434404946937899825954937634816),(500,3138550867693340381917894711603833208051177722232017256448,3064991081731777716716694054300618367237478244367204352000),(516,6277101735386680763835789423207666416102355444464034512896,3163070796347194603651628264038238154989077548186954891264),(516,12554203470773361527671578846415332832204710888928069025792,3163070796347194603651628264038238154989077548186954891264),(3596,25108406941546723055343157692830665664409421777856138051584,18904864992121604956708568926926214089120765811256916443136),(4100,50216813883093446110686315385661331328818843555712276103168,25132926870200577277076891245265070611347321603811075686400),(16383,1024,50216813883093446110686315385661331328818843555712276103168)]
theorem body5:bodyB Tryz.prog 5 = true:=by kernel_rfl
theorem body6:bodyB Tryz.prog 6 = true:=by kernel_rfl
theorem body7:bodyB Tryz.prog 7 = true:=by kernel_rfl
theorem body11:bodyB Tryz.prog 11 = true:=by kernel_rfl
theorem body12:bodyB Tryz.prog 12 = true:=by kernel_rfl
theorem body13:bodyB Tryz.prog 13 = true:=by kernel_rfl
theorem body14:bodyB Tryz.prog 14 = true:=by kernel_rfl
theorem body16:bodyB Tryz.prog 16 = true:=by kernel_rfl
theorem body17:bodyB Tryz.prog 17 = true:=by kernel_rfl
def wardmotelaw29_MinorityCounts_l1 (n:Nat) (c0:(List Int) × Int) (j0:(List Int) × Int) (d0:Nat → Option (Bool ⊕ Unit)):Nat → Option (Bool ⊕ Unit)
  | b0=>(if b0 < c0.1.length then (c0.1[b0]?).bind fun g0=>(slices_Contains_int_int_p n j0.1 g0).bind fun k0=>(if k0 = true then d0 (b0 + 1) else some (.inl false)) else some (.inr ()))
def wardmotelaw29_MinorityCounts_l2 (_n:Nat) (c0:TRoll) (a2:UInt8) (g0:Int × Nat → Option Int):Int × Nat → Option Int
  | (d0,b0)=>(if b0 < c0.fu.length then (c0.fu[b0]?).bind fun k0=>(k0.fj[(a2 % (2:UInt8)).toNat]?).bind fun p0=>(chk (d0 + p0)).bind fun j0=>g0 (j0,b0 + 1) else some d0)
def wardmotelaw29_MinorityCounts_l3 (n:Nat) (J0:(List TShare) × Int) (W0:(List Int) × Int) (j0:Nat × UInt64 × UInt64 × UInt64 × UInt64 × UInt64 × UInt64 × UInt64 × UInt64 × UInt64 × UInt64 × UInt64 × UInt64 × UInt64 × UInt64 × UInt64 × UInt64 × Bool → Option (Bool ⊕ (Bool × UInt64 × UInt64 × UInt64 × UInt64 × UInt64 × UInt64 × UInt64 × UInt64 × UInt64 × UInt64 × UInt64 × UInt64 × UInt64 × UInt64 × UInt64 × UInt64))):Nat × UInt64 × UInt64 × UInt64 × UInt64 × UInt64 × UInt64 × UInt64 × UInt64 × UInt64 × UInt64 × UInt64 × UInt64 × UInt64 × UInt64 × UInt64 × UInt64 × Bool → Option (Bool ⊕ (Bool × UInt64 × UInt64 × UInt64 × UInt64 × UInt64 × UInt64 × UInt64 × UInt64 × UInt64 × UInt64 × UInt64 × UInt64 × UInt64 × UInt64 × UInt64 × UInt64))
  | (g0,k0,p0,q0,s0,t0,u0,v0,x0,y0,z0,A0,B0,C0,D0,E0,F0,H0)=>(if g0 < J0.1.length then (J0.1[g0]?).bind fun G0=>(wardmotelaw29_of_p n (0:Int) (1:Int)).bind fun M0=>(wardmotelaw29_atMost_p n M0 G0).bind fun P0=>(if P0 = true then (wardmotelaw29_of_p n (1:Int) (1:Int)).bind fun Q0=>(wardmotelaw29_atMost_p n G0 Q0).bind fun R0=>(if R0 = true then (W0.1[g0]?).bind fun K0=>(wardmotelaw29_of_p n K0 (1:Int)).bind fun U0=>(share_Mul_p n G0 U0).bind fun I0=>(if I0.2 = 0 then (share_Add_p n (⟨(k0,p0,q0,s0,t0,u0,v0,x0),(y0,z0,A0,B0,C0,D0,E0,F0)⟩:TShare) I0.1).bind fun b0=>(if b0.2 = 0 then j0 (g0 + 1,b0.1.fN.1,b0.1.fN.2.1,b0.1.fN.2.2.1,b0.1.fN.2.2.2.1,b0.1.fN.2.2.2.2.1,b0.1.fN.2.2.2.2.2.1,b0.1.fN.2.2.2.2.2.2.1,b0.1.fN.2.2.2.2.2.2.2,b0.1.fD.1,b0.1.fD.2.1,b0.1.fD.2.2.1,b0.1.fD.2.2.2.1,b0.1.fD.2.2.2.2.1,b0.1.fD.2.2.2.2.2.1,b0.1.fD.2.2.2.2.2.2.1,b0.1.fD.2.2.2.2.2.2.2,H0) else (wardmotelaw29_of_p n (0:Int) (1:Int)).bind fun c0=>j0 (g0 + 1,c0.fN.1,c0.fN.2.1,c0.fN.2.2.1,c0.fN.2.2.2.1,c0.fN.2.2.2.2.1,c0.fN.2.2.2.2.2.1,c0.fN.2.2.2.2.2.2.1,c0.fN.2.2.2.2.2.2.2,c0.fD.1,c0.fD.2.1,c0.fD.2.2.1,c0.fD.2.2.2.1,c0.fD.2.2.2.2.1,c0.fD.2.2.2.2.2.1,c0.fD.2.2.2.2.2.2.1,c0.fD.2.2.2.2.2.2.2,true)) else (wardmotelaw29_of_p n (0:Int) (1:Int)).bind fun V0=>(share_Add_p n (⟨(k0,p0,q0,s0,t0,u0,v0,x0),(y0,z0,A0,B0,C0,D0,E0,F0)⟩:TShare) V0).bind fun b0=>(if b0.2 = 0 then j0 (g0 + 1,b0.1.fN.1,b0.1.fN.2.1,b0.1.fN.2.2.1,b0.1.fN.2.2.2.1,b0.1.fN.2.2.2.2.1,b0.1.fN.2.2.2.2.2.1,b0.1.fN.2.2.2.2.2.2.1,b0.1.fN.2.2.2.2.2.2.2,b0.1.fD.1,b0.1.fD.2.1,b0.1.fD.2.2.1,b0.1.fD.2.2.2.1,b0.1.fD.2.2.2.2.1,b0.1.fD.2.2.2.2.2.1,b0.1.fD.2.2.2.2.2.2.1,b0.1.fD.2.2.2.2.2.2.2,true) else (wardmotelaw29_of_p n (0:Int) (1:Int)).bind fun d0=>j0 (g0 + 1,d0.fN.1,d0.fN.2.1,d0.fN.2.2.1,d0.fN.2.2.2.1,d0.fN.2.2.2.2.1,d0.fN.2.2.2.2.2.1,d0.fN.2.2.2.2.2.2.1,d0.fN.2.2.2.2.2.2.2,d0.fD.1,d0.fD.2.1,d0.fD.2.2.1,d0.fD.2.2.2.1,d0.fD.2.2.2.2.1,d0.fD.2.2.2.2.2.1,d0.fD.2.2.2.2.2.2.1,d0.fD.2.2.2.2.2.2.2,true))) else some (.inl false)) else some (.inl false)) else some (.inr (H0,k0,p0,q0,s0,t0,u0,v0,x0,y0,z0,A0,B0,C0,D0,E0,F0)))
def wardmotelaw29_MinorityCounts_p (n:Nat) (a0:TDraft) (a1:TDraft26) (a2:UInt8) (a3:TPart) (a4:TPart):Option Bool:=
  (wardmotelaw29_works_p n).bind fun R1=>(if R1 = true then (wardmoteref21_Draft_Loose_p n a0).bind fun g0=>(wardmoteref22_Draft_Full_p n a1 ((g0.1.length:Nat):Int)).bind fun j0=>(minority_Shares_p n j0 g0.1 g0.2 (((a2 % (2:UInt8)).toNat:Nat):Int)).bind fun p0=>(balance_Totals_p n j0 g0.1 g0.2).bind fun q0=>(if p0.2 = 0 then (if q0.2 = 0 then (if ((p0.1.length:Nat):Int) = g0.2 then (if ((q0.1.length:Nat):Int) = g0.2 then (wardmotelaw29_of_p n (0:Int) (1:Int)).bind fun d0=>thn (loopF (wardmotelaw29_MinorityCounts_l3 n p0 q0) n (0,d0.fN.1,d0.fN.2.1,d0.fN.2.2.1,d0.fN.2.2.2.1,d0.fN.2.2.2.2.1,d0.fN.2.2.2.2.2.1,d0.fN.2.2.2.2.2.2.1,d0.fN.2.2.2.2.2.2.2,d0.fD.1,d0.fD.2.1,d0.fD.2.2.1,d0.fD.2.2.2.1,d0.fD.2.2.2.2.1,d0.fD.2.2.2.2.2.1,d0.fD.2.2.2.2.2.2.1,d0.fD.2.2.2.2.2.2.2,false)) (fun (v0,x0,y0,z0,A0,B0,C0,D0,E0,F0,G0,H0,I0,J0,K0,M0,P0)=>Option.bind (loopF (wardmotelaw29_MinorityCounts_l2 n j0 a2) n (0,0)) (fun U1=>(wardmoteref22_Part_Unit_p n a3).bind fun b0=>(wardmoteref22_Part_Unit_p n a4).bind fun c0=>(wardmotelaw29_atMost_p n c0 b0).bind fun J1=>jn (fun (Q0,R0,U0,V0,W0,X0,Y0,Z0,b1,c1,d1,g1,j1,k1,p1,q1,s1,t1,u1,v1,x1,y1,z1,A1,B1,C1,D1,E1,F1,G1,H1,I1)=>(minority_Majority_p n j0 g0.1 g0.2 (((a2 % (2:UInt8)).toNat:Nat):Int) (⟨(Q0,R0,U0,V0,W0,X0,Y0,Z0),(b1,c1,d1,g1,j1,k1,p1,q1)⟩:TShare)).bind fun t0=>(minority_Majority_p n j0 g0.1 g0.2 (((a2 % (2:UInt8)).toNat:Nat):Int) (⟨(s1,t1,u1,v1,x1,y1,z1,A1),(B1,C1,D1,E1,F1,G1,H1,I1)⟩:TShare)).bind fun k0=>(if v0 = true then some false else (wardmotelaw29_of_p n U1 (1:Int)).bind fun K1=>(if (⟨(x0,y0,z0,A0,B0,C0,D0,E0),(F0,G0,H0,I0,J0,K0,M0,P0)⟩:TShare) = K1 then (if t0.2 = 0 then (if k0.2 = 0 then thn (loopF (wardmotelaw29_MinorityCounts_l1 n t0 k0) n 0) (fun _=>(slices_IsSorted_int_int_p n k0.1).bind fun M1=>(if M1 = true then (wardmotelaw29_of_p n (1:Int) (1:Int)).bind fun P1=>(minority_Majority_p n j0 g0.1 g0.2 (((a2 % (2:UInt8)).toNat:Nat):Int) P1).bind fun u0=>(wardmotelaw29_lists_1_p n u0.1 u0.2 ([]:List Int)).bind fun Q1=>some Q1 else some false)) else some false) else some false) else some false))) (fun s0=>(if J1 = true then s0 (b0.fN.1,b0.fN.2.1,b0.fN.2.2.1,b0.fN.2.2.2.1,b0.fN.2.2.2.2.1,b0.fN.2.2.2.2.2.1,b0.fN.2.2.2.2.2.2.1,b0.fN.2.2.2.2.2.2.2,b0.fD.1,b0.fD.2.1,b0.fD.2.2.1,b0.fD.2.2.2.1,b0.fD.2.2.2.2.1,b0.fD.2.2.2.2.2.1,b0.fD.2.2.2.2.2.2.1,b0.fD.2.2.2.2.2.2.2,c0.fN.1,c0.fN.2.1,c0.fN.2.2.1,c0.fN.2.2.2.1,c0.fN.2.2.2.2.1,c0.fN.2.2.2.2.2.1,c0.fN.2.2.2.2.2.2.1,c0.fN.2.2.2.2.2.2.2,c0.fD.1,c0.fD.2.1,c0.fD.2.2.1,c0.fD.2.2.2.1,c0.fD.2.2.2.2.1,c0.fD.2.2.2.2.2.1,c0.fD.2.2.2.2.2.2.1,c0.fD.2.2.2.2.2.2.2) else s0 (c0.fN.1,c0.fN.2.1,c0.fN.2.2.1,c0.fN.2.2.2.1,c0.fN.2.2.2.2.1,c0.fN.2.2.2.2.2.1,c0.fN.2.2.2.2.2.2.1,c0.fN.2.2.2.2.2.2.2,c0.fD.1,c0.fD.2.1,c0.fD.2.2.1,c0.fD.2.2.2.1,c0.fD.2.2.2.2.1,c0.fD.2.2.2.2.2.1,c0.fD.2.2.2.2.2.2.1,c0.fD.2.2.2.2.2.2.2,b0.fN.1,b0.fN.2.1,b0.fN.2.2.1,b0.fN.2.2.2.1,b0.fN.2.2.2.2.1,b0.fN.2.2.2.2.2.1,b0.fN.2.2.2.2.2.2.1,b0.fN.2.2.2.2.2.2.2,b0.fD.1,b0.fD.2.1,b0.fD.2.2.1,b0.fD.2.2.2.1,b0.fD.2.2.2.2.1,b0.fD.2.2.2.2.2.1,b0.fD.2.2.2.2.2.2.1,b0.fD.2.2.2.2.2.2.2))))) else some false) else some false) else some false) else some false) else some false)
theorem wardmotelaw29_MinorityCounts_c (n:Nat) (L:List Nat) (w:World) (hL:∀ b ∈ L,b < w.heap.size) (a0:TDraft) {v0_1:Value} (h0_1:Rep.R w L [v0_1] a0.fH) {v0_2:Value} (h0_2:Rep.R w L [v0_2] a0.fMore) {v0_3:Value} (h0_3:Rep.R w L [v0_3] a0.fLabels) (a1:TDraft26) {v1_4:Value} (h1_4:Rep.R w L [v1_4] a1.fNums) (a2:UInt8) (a3:TPart) (a4:TPart)  {r:Bool} (h:wardmotelaw29_MinorityCounts_p n a0 a1 a2 a3 a4 = some r) :
    Calls Tryz.prog 3 #[.agg #[.int .u8 (a0.fN.toNat:Int),v0_1,v0_2,v0_3,.int .u8 (a0.fK.toNat:Int)],.agg #[.int .u8 (a1.fj.toNat:Int),.int .u8 (a1.fh.toNat:Int),.int .u8 (a1.fl.toNat:Int),.int .u8 (a1.fq.toNat:Int),v1_4],.int .u8 (a2.toNat:Int),.agg #[.int .i16 a3.fN.toInt,.int .u8 (a3.fD.toNat:Int)],.agg #[.int .i16 a4.fN.toInt,.int .u8 (a4.fD.toNat:Int)]] w (Gives w fun _ u=>u = .bool r):=by
 unfold wardmotelaw29_MinorityCounts_p at h
 have hS0:=Ay w
 refine AD Tryz.func3 rfl rfl rfl (fun _ cs0 hb0=>?_)
 refine Ac<|Ai .plain rfl (Av hS0 rfl rfl) (fun w11 b14 j8 d03=>?_)
 refine Ai .plain rfl (Av j8 rfl rfl) (fun w16 b19 A8 j03=>?_)
 refine Ai .plain rfl (Av A8 rfl rfl) (fun w21 J1 B8 k03=>?_)
 refine Ai .plain rfl (Av B8 rfl rfl) (fun w26 K1 g2 p03=>?_)
 refine Af rfl<|Aa<|Aj<|Ac ?_
 obtain ⟨y30,x01,h⟩:=bi h
 refine Bg (.bool y30) body5 rfl evs_nil (fun w9 hw9=>wardmotelaw29_works_c n _ w9 (g2.hL0 hL hw9)  x01) rfl<|Ab (BG rfl)<|Aa<|MX.ifnb rfl h (fun K7 h=>?_) (fun K7 h=>?_)
 refine Au<|Ac<|Ab (AA rfl (g2.memA (.tl (.tl (.tl .hd))))) ?_
 obtain ⟨V0,y01,h⟩:=bi h
 refine Bf (fst:=[]) (cap:=[]) .plain body6 rfl (e1 rfl) (fun w9 hw9=>wardmoteref21_Draft_Loose_c n _ w9 (g2.hL hL hw9) a0 (g2.km h0_1 hw9) (g2.km h0_2 hw9) (g2.km h0_3 hw9) y01) rfl (fun w33 I03 R8 ⟨b4,hu_,z2⟩=>?_)
 subst hu_
 obtain ⟨q4,q03⟩:=g2.agr R8
 refine Ae rfl<|Ab (Ah rfl rfl)<|Ab (Ah rfl rfl)<|Af rfl<|Af rfl<|Aa<|Ac<|Ab (AA rfl (q4.memA (.tl (.tl .hd))))<|Ae rfl ?_
 have v03:V0.1.length ≤ 281474976710656:=AU z2
 refine Ab (Bd (xs:=V0.1) Tryz.underlying33 rfl z2) ?_
 obtain ⟨c0,z01,h⟩:=bi h
 refine Bf (fst:=[]) (cap:=[]) .plain body7 rfl (e2 rfl rfl) (fun w9 hw9=>wardmoteref22_Draft_Full_c n _ w9 (q4.hL hL hw9) a1 (q4.km h1_4 hw9) ((V0.1.length:Nat):Int) z01) rfl (fun w42 J03 U8 ⟨Z0,hu_,j2⟩=>?_)
 subst hu_
 obtain ⟨C8,x4⟩:=q4.agr U8
 refine Ai .plain rfl (Ar [vI 0,vI 0,vI 0,vN] C8) (fun w50 R0 D8 y4=>?_)
 have Z9:=Aq j2 y4
 refine AJ [vI c0.fj,vI c0.fh,vI c0.fl,Z0] D8 .hd (o4 rfl rfl rfl (AN Z9)) (fun w55 s5 J5=>?_)
 refine Aa<|Ac<|Ae rfl<|Ab (FV.rem8 (a:=a2) (b:=(2:UInt8)) rfl rfl (by decide)) ?_
 have z03:=(a2 % (2:UInt8)).toNat_lt
 refine Ab (FV.convN (i:=(a2 % (2:UInt8)).toNat) Tryz.underlying5 Tryz.underlying3 rfl (by omega))<|Af rfl<|Aa<|Ac<|Ab (AA rfl (s5.memA .hd))<|Ae rfl<|Ae rfl<|Ae rfl ?_
 obtain ⟨z3,A01,h⟩:=bi h
 have b00:=Aq j2 (Tt y4 J5)
 have W6:=Tt x4 (Tt y4 J5)
 have c00:=Aq z2 W6
 refine Bf (fst:=[]) (cap:=[]) .plain body8 rfl (e4 rfl rfl rfl rfl) (fun w9 hw9=>minority_Shares_c n _ w9 (s5.hL hL hw9) c0 (Ap b00 hw9) V0.1 (Ap c00 hw9) V0.2 (((a2 % (2:UInt8)).toNat:Nat):Int) A01) rfl (fun w63 K03 V8 ⟨v68,hu_,Y5⟩=>?_)
 subst hu_
 obtain ⟨t5,K6⟩:=s5.agr V8
 refine Ae rfl<|Ab (Ah rfl rfl)<|Ab (Ah rfl rfl)<|Af rfl<|Af rfl<|Aa<|Ac<|Ab (AA rfl (t5.memA .hd))<|Ae rfl<|Ae rfl ?_
 obtain ⟨H4,B01,h⟩:=bi h
 have X5:=Tt y4 (Tt J5 K6)
 have d00:=Aq j2 X5
 have g00:=Aq z2 (Tt x4 X5)
 refine Bf (fst:=[]) (cap:=[]) .plain body9 rfl (e3 rfl rfl rfl) (fun w9 hw9=>balance_Totals_c n _ w9 (t5.hL hL hw9) c0 (Ap d00 hw9) V0.1 (Ap g00 hw9) V0.2 B01) rfl (fun w74 M03 W8 ⟨v79,hu_,Z5⟩=>?_)
 subst hu_
 obtain ⟨M3,z4⟩:=t5.agr W8
 refine Ae rfl<|Ab (Ah rfl rfl)<|Ab (Ah rfl rfl)<|Af rfl<|Af rfl<|Aa<|Aj<|Ac<|Ae rfl<|Ab (FV.neq (i:=z3.2) (j:=0) rfl rfl)<|Ae rfl<|RG.ifn (s:=63) rfl h (fun M7 h=>?_) (fun M7 h=>?_)
 refine AS (Ak rfl)<|AS (FV.neq (i:=H4.2) (j:=0) rfl rfl)<|RG.pf rfl rfl<|Ae rfl<|RG.ifn (s:=67) rfl h (fun P7 h=>?_) (fun P7 h=>?_)
 refine AS (Ak rfl) ?_
 have R6:=Aq Y5 z4
 have x03:z3.1.length ≤ 281474976710656:=AU R6
 refine AS (Bd (xs:=z3.1) Tryz.underlying40 rfl R6)<|AS (Ak rfl)<|AS (FV.neq (i:=((z3.1.length:Nat):Int)) (j:=V0.2) rfl rfl)<|RG.pf rfl rfl<|Ae rfl<|RG.ifn (s:=73) rfl h (fun Q7 h=>?_) (fun Q7 h=>?_)
 refine AS (Ak rfl) ?_
 have y03:H4.1.length ≤ 281474976710656:=AU Z5
 refine AS (Bd (xs:=H4.1) Tryz.underlying32 rfl Z5)<|AS (Ak rfl)<|AS (FV.neq (i:=((H4.1.length:Nat):Int)) (j:=V0.2) rfl rfl)<|RG.pf rfl rfl<|Aa<|MX.ifn rfl h (fun R7 h=>?_) (fun R7 h=>?_)
 refine Au<|Ac<|Ab (AM (vs:=[]) (u:=.agg #[.bool false]) evs_nil (fun w9=>by kernel_rfl))<|Ai .plain rfl (Av M3 rfl rfl) (fun w89 t0 E6 A4=>?_)
 refine Af rfl<|Aa<|Ac ?_
 obtain ⟨Y0,C01,h⟩:=bi h
 refine Bg (.agg ((cs_TShare Y0)).toArray) body10 rfl (e2 rfl rfl) (fun w9 hw9=>wardmotelaw29_of_c n _ w9 (E6.hL0 hL hw9) (0:Int) (1:Int) C01) rfl<|Ai .plain rfl (Ar zL E6) (fun w95 b1 E8 B4=>?_)
 refine AJ (cs_TShare Y0) E8 .hd (onesB rfl) (fun w99 c8 s4=>?_)
 refine Aa<|Aj<|Ac<|Ae rfl ?_
 have U6:=Tt z4 (Tt A4 (Tt B4 s4))
 have C9:=Aq Y5 U6
 refine Ab (Bd (xs:=z3.1) Tryz.underlying40 rfl C9)<|Ae rfl<|Aa<|Az ?_
 obtain ⟨d8,t4⟩:=AG c8 (.one .hd (.one .hd (.one .hd (.one .hd (.one .hd .done)))))
 obtain ⟨A03,j00,K5⟩:=thn_in h
 refine Bm (α:=Nat × UInt64 × UInt64 × UInt64 × UInt64 × UInt64 × UInt64 × UInt64 × UInt64 × UInt64 × UInt64 × UInt64 × UInt64 × UInt64 × UInt64 × UInt64 × UInt64 × Bool) (fun ⟨P0,v0,x0,y0,z0,A0,B0,C0,D0,E0,F0,G0,H0,I0,J0,K0,M0,Q0⟩=>[(8,vP J1),(9,vP K1),(11,b4),(12,vI V0.2),(13,vP R0),(14,vI (((a2 % (2:UInt8)).toNat:Nat):Int)),(17,v79),(19,vP t0),(20,vP b1),(82,v68),(83,vI ((z3.1.length:Nat):Int)),(84,vI ((P0:Nat):Int))]) (fun ⟨P0,v0,x0,y0,z0,A0,B0,C0,D0,E0,F0,G0,H0,I0,J0,K0,M0,Q0⟩ E4=>St w E4 [.cells b1 [vU v0,vU x0,vU y0,vU z0,vU A0,vU B0,vU C0,vU D0,vU E0,vU F0,vU G0,vU H0,vU I0,vU J0,vU K0,vU M0] 53,.cells t0 [.bool Q0] 48,.cells R0 [vI c0.fj,vI c0.fh,vI c0.fl,Z0] 38,.cells K1 [.int .i16 a4.fN.toInt,.int .u8 (a4.fD.toNat:Int)] 30,.cells J1 [.int .i16 a3.fN.toInt,.int .u8 (a3.fD.toNat:Int)] 30]∧Tr w99 [.cells b1 (cs_TShare Y0) 53,.cells t0 [.bool false] 48,.cells R0 [vI c0.fj,vI c0.fh,vI c0.fl,Z0] 38,.cells K1 [.int .i16 a4.fN.toInt,.int .u8 (a4.fD.toNat:Int)] 30,.cells J1 [.int .i16 a3.fN.toInt,.int .u8 (a3.fD.toNat:Int)] 30] E4 [.cells b1 [vU v0,vU x0,vU y0,vU z0,vU A0,vU B0,vU C0,vU D0,vU E0,vU F0,vU G0,vU H0,vU I0,vU J0,vU K0,vU M0] 53,.cells t0 [.bool Q0] 48,.cells R0 [vI c0.fj,vI c0.fh,vI c0.fl,Z0] 38,.cells K1 [.int .i16 a4.fN.toInt,.int .u8 (a4.fD.toNat:Int)] 30,.cells J1 [.int .i16 a3.fN.toInt,.int .u8 (a3.fD.toNat:Int)] 30]) (fun ⟨P0,v0,x0,y0,z0,A0,B0,C0,D0,E0,F0,G0,H0,I0,J0,K0,M0,Q0⟩=>(P0,v0,x0,y0,z0,A0,B0,C0,D0,E0,F0,G0,H0,I0,J0,K0,M0,Q0)) (0,Y0.fN.1,Y0.fN.2.1,Y0.fN.2.2.1,Y0.fN.2.2.2.1,Y0.fN.2.2.2.2.1,Y0.fN.2.2.2.2.2.1,Y0.fN.2.2.2.2.2.2.1,Y0.fN.2.2.2.2.2.2.2,Y0.fD.1,Y0.fD.2.1,Y0.fD.2.2.1,Y0.fD.2.2.2.1,Y0.fD.2.2.2.2.1,Y0.fD.2.2.2.2.2.1,Y0.fD.2.2.2.2.2.2.1,Y0.fD.2.2.2.2.2.2.2,false) j00 ⟨rfl,rfl,rfl,rfl,rfl,rfl,rfl,rfl,rfl,rfl,rfl,rfl,trivial⟩ ⟨d8,AQ _ _⟩ ?_
 rintro I02 ⟨P0,v0,x0,y0,z0,A0,B0,C0,D0,E0,F0,G0,H0,I0,J0,K0,M0,Q0⟩ E4 c2 ⟨X4,s1⟩ h
 unfold wardmotelaw29_MinorityCounts_l3 at h
 try dsimp only at h
 refine Ac<|Ab (Br (i:=P0) (j:=z3.1.length) rfl rfl)<|Aa<|Aj<|AV rfl h (fun y7 h=>?_) (fun y7 h=>?_)
 refine Au<|Aj<|Az<|Ac<|Ae rfl ?_
 obtain ⟨y3,P00,h⟩:=bi h
 have t00:=Tt U6 (Tt t4 s1)
 have z9:=Aq Y5 t00
 obtain ⟨D02,V02,X8,q9,b03,B00,y9⟩:=Bk z9 P00
 obtain rfl:=op_TShare B00
 refine Ab (Bp 16 P0 rfl X8 rfl rfl q9)<|Ab (AA rfl y9)<|Ai .plain rfl (Ar zL X4) (fun P03 P02 g8 P1=>?_)
 refine Af rfl<|AJ (cs_TShare y3) g8 .hd (onesB rfl) (fun Q03 p1 Q1=>?_)
 refine Aa<|Aj<|Aj<|dt 10 tb3_15 (fun k1 u1=>?_)
 obtain ⟨j7,W00,h⟩:=bi h
 refine BA 0 1 1020 (.agg ((cs_TShare j7)).toArray) k1 rfl u1 body10 rfl (e2 rfl rfl) (fun w9 hw9=>wardmotelaw29_of_c n _ w9 (p1.hL0 hL hw9) (0:Int) (1:Int) W00) rfl<|AC 1 3 1020 k1 rfl u1 (AA rfl (p1.memA .hd)) rfl ?_
 obtain ⟨v02,X00,h⟩:=bi h
 refine BA 2 7 1016 (.bool v02) k1 rfl u1 body11 rfl (e2 rfl rfl) (fun w9 hw9=>wardmotelaw29_atMost_c n _ w9 (p1.hL0 hL hw9) j7 y3 X00) rfl<|Ag 3 15 k1 rfl u1 (fun _=>BG rfl) rfl<|Ag 4 31 k1 rfl u1 (fun _=>Ak rfl) rfl<|RD.ifnb (s:=93) rfl h (fun z7 h=>?_) (fun z7 h=>?_)
 refine RD.val (i:=5) (m' :=63) (W:=896) (tk k1) rfl u1 (.yes rfl rfl) (AA rfl (p1.memA .hd)) rfl ?_
 obtain ⟨k7,Y00,h⟩:=bi h
 refine RD.callq (i:=6) (m' :=127) (W:=896) (tk k1) rfl u1 (v:=.agg ((cs_TShare k7)).toArray) (fst:=[]) (cap:=[]) (.yes rfl rfl) body10 rfl (e2 rfl rfl) (fun w9 hw9=>wardmotelaw29_of_c n _ w9 (p1.hL0 hL hw9) (1:Int) (1:Int) Y00) rfl ?_
 obtain ⟨x02,Z00,h⟩:=bi h
 refine RD.callq (i:=7) (m' :=255) (W:=768) (tk k1) rfl u1 (v:=.bool x02) (fst:=[]) (cap:=[]) (.yes rfl rfl) body11 rfl (e2 rfl rfl) (fun w9 hw9=>wardmotelaw29_atMost_c n _ w9 (p1.hL0 hL hw9) y3 k7 Z00) rfl<|RD.vP 8 511 k1 rfl u1 (.yes rfl rfl) (fun _=>BG rfl) rfl<|Ag 9 1023 k1 rfl u1 (fun _=>Bs rfl rfl) rfl<|AE (dk k1)<|MX.ifnb rfl h (fun A7 h=>?_) (fun A7 h=>?_)
 refine Au<|dt 9 tb3_17 (fun j0 G1=>?_)
 refine Ag 0 1 j0 rfl G1 (fun _=>Ak rfl) rfl<|Ag 2 5 j0 rfl G1 (fun _=>Ak rfl) rfl<|AC 3 13 3584 j0 rfl G1 (AA rfl (p1.memA .hd)) rfl<|Ag 4 29 j0 rfl G1 (fun _=>Ak rfl) rfl<|Ag 5 61 j0 rfl G1 (fun _=>Ak rfl) rfl ?_
 obtain ⟨c7,Q00,h⟩:=bi h
 have u00:=Tt A4 (Tt B4 (Tt s4 (Tt t4 (Tt s1 (Tt P1 Q1)))))
 have B9:=Aq Z5 u00
 obtain ⟨E02,W02,Y8,s9,U7,C00,A9⟩:=Bk B9 Q00
 have Z8:U7 = [vI c7]:=C00; subst Z8
 refine Ag 6 125 j0 rfl G1 (fun _=>Bp 1 P0 rfl Y8 rfl rfl s9) rfl<|AC 7 253 3840 j0 rfl G1 (AL rfl (A9 0 _ rfl)) rfl ?_
 obtain ⟨c4,b01,h⟩:=bi h
 refine BA 8 509 3584 (.agg ((cs_TShare c4)).toArray) j0 rfl G1 body10 rfl (e2 rfl rfl) (fun w9 hw9=>wardmotelaw29_of_c n _ w9 (p1.hL0 hL hw9) c7 (1:Int) b01) rfl<|BJ [1,9] (rk j0) ⟨?_,?_,trivial⟩
 refine BK (m' :=511) (sk j0) rfl .plain rfl (AA rfl (p1.memA (.tl .hd)))<|BC (i:=9) (rk j0) (RO.enterPT (m' :=1023) (fst:=[]) (cap:=[]) (vs:=[vP t0,.agg ((cs_TShare y3)).toArray,.agg ((cs_TShare c4)).toArray]) (sk j0) rfl rfl .plain body13 Tryz.func13 rfl rfl rfl rfl (e3 rfl rfl rfl) rfl (fun _ V7 Y3 q00=>?_))
 refine Ac<|Ai .plain rfl (Av p1 rfl rfl) (fun M01 s7 Y4 R1=>?_)
 refine Ai .plain rfl (Av Y4 rfl rfl) (fun P01 t7 Z4 U1=>?_)
 refine Ai .plain rfl (Ar zL Z4) (fun Q01 u7 M1 V1=>?_)
 refine Aa<|Ac<|Ae rfl<|Ab (AA rfl (M1.memA (.tl (.tl .hd))))<|Ab (AA rfl (M1.memA (.tl .hd))) ?_
 obtain ⟨u0,b6,h⟩:=bi h
 refine Bg (.tuple #[.agg ((cs_TShare u0.1)).toArray,vI u0.2]) body44 rfl (e2 rfl rfl) (fun w9 hw9=>share_Mul_c n _ w9 (M1.hL0 hL hw9) y3 c4 b6) rfl<|Ab (Ah rfl rfl)<|Ab (Ah rfl rfl)<|Bj (fst:=[]) (cap:=[]) (vs:=[vP t0,.agg ((cs_TShare u0.1)).toArray,vI u0.2]) .plain body42 Tryz.func42 rfl rfl rfl rfl (e3 rfl rfl rfl) rfl (fun W7 Z3 s00=>?_)
 refine Ac<|Ai .plain rfl (Av M1 rfl rfl) (fun R01 v7 b5 W1=>?_)
 refine Ai .plain rfl (Ar zL b5) (fun U01 x7 p2 X1=>?_)
 refine Aa<|Aj<|Ac<|Ae rfl<|Ab (FV.neq (i:=u0.2) (j:=0) rfl rfl)<|Aa<|MX.ifn rfl h (fun U4 h=>?_) (fun U4 h=>?_)
 refine Au<|Ac<|Ab (AA rfl (p2.memA (.tl .hd)))<|AJ (cs_TShare u0.1) p2 .hd (onesB rfl) (fun V01 C3 P3=>?_)
 refine Aa<|Al rfl<|Am (u:=.agg ((cs_TShare u0.1)).toArray) Z3 Tryz.func42 rfl (.cons (.many (cs:=(cs_TShare u0.1)) (by kernel_rfl) rfl (C3.memA .hd)) .nil) rfl<|AJ (cs_TShare u0.1) C3 (.tl (.tl .hd)) (onesB rfl) (fun W01 A3 Q3=>?_)
 refine Aa<|Al rfl<|Am (u:=.agg ((cs_TShare u0.1)).toArray) Y3 Tryz.func13 rfl (.cons (.many (cs:=(cs_TShare u0.1)) (by kernel_rfl) rfl (A3.memA (.tl (.tl .hd)))) .nil) rfl<|BC (i:=10) (rk j0) (RO.enterPT (m' :=2047) (fst:=[]) (cap:=[]) (vs:=[vP t0,.agg #[vU v0,vU x0,vU y0,vU z0,vU A0,vU B0,vU C0,vU D0,vU E0,vU F0,vU G0,vU H0,vU I0,vU J0,vU K0,vU M0],.agg ((cs_TShare u0.1)).toArray]) (sk j0) rfl rfl .plain body12 Tryz.func12 rfl rfl rfl rfl (e3 rfl rfl rfl) rfl (fun _ V4 E1 M5=>?_))
 refine Ac<|Ai .plain rfl (Av A3 rfl rfl) (fun j6 I4 q2 z1=>?_)
 refine Ai .plain rfl (Av q2 rfl rfl) (fun k6 J4 s2 A1=>?_)
 refine Ai .plain rfl (Ar zL s2) (fun p6 K4 W0 B1=>?_)
 refine Aa<|Ac<|Ae rfl<|Ab (AA rfl (W0.memA (.tl (.tl .hd))))<|Ab (AA rfl (W0.memA (.tl .hd))) ?_
 obtain ⟨b0,A2,h⟩:=bi h
 refine Bg (.tuple #[.agg ((cs_TShare b0.1)).toArray,vI b0.2]) body43 rfl (e2 rfl rfl) (fun w9 hw9=>share_Add_c n _ w9 (W0.hL0 hL hw9) (⟨(v0,x0,y0,z0,A0,B0,C0,D0),(E0,F0,G0,H0,I0,J0,K0,M0)⟩:TShare) u0.1 A2) rfl<|Ab (Ah rfl rfl)<|Ab (Ah rfl rfl)<|Bj (fst:=[]) (cap:=[]) (vs:=[vP t0,.agg ((cs_TShare b0.1)).toArray,vI b0.2]) .plain body42 Tryz.func42 rfl rfl rfl rfl (e3 rfl rfl rfl) rfl (fun W4 F1 P5=>?_)
 refine Ac<|Ai .plain rfl (Av W0 rfl rfl) (fun q6 M4 t2 C1=>?_)
 refine Ai .plain rfl (Ar zL t2) (fun s6 P4 d1 D1=>?_)
 refine Aa<|Aj<|Ac<|Ae rfl<|Ab (FV.neq (i:=b0.2) (j:=0) rfl rfl)<|Aa<|MX.ifn rfl h (fun k2 h=>?_) (fun k2 h=>?_)
 refine Au<|Ac<|Ab (AA rfl (d1.memA (.tl .hd)))<|AJ (cs_TShare b0.1) d1 .hd (onesB rfl) (fun t6 x1 x2=>?_)
 refine Aa<|Al rfl<|Am (u:=.agg ((cs_TShare b0.1)).toArray) F1 Tryz.func42 rfl (.cons (.many (cs:=(cs_TShare b0.1)) (by kernel_rfl) rfl (x1.memA .hd)) .nil) rfl<|AJ (cs_TShare b0.1) x1 (.tl (.tl .hd)) (onesB rfl) (fun u6 y1 y2=>?_)
 refine Aa<|Al rfl<|Am (u:=.agg ((cs_TShare b0.1)).toArray) E1 Tryz.func12 rfl (.cons (.many (cs:=(cs_TShare b0.1)) (by kernel_rfl) rfl (y1.memA (.tl (.tl .hd)))) .nil) rfl<|Bq 11 4095 j0 rfl rfl .plain (Aw (news:=(cs_TShare b0.1)) y1 (.tl (.tl (.tl (.tl (.tl (.tl (.tl (.tl (.tl (.tl (.tl .hd))))))))))) rfl rfl rfl rfl rfl rfl (onesB rfl)) (fun x3 g1 j1=>?_)
 refine AE (dk j0)<|AB<|Ao<|Ab (Bl (i:=P0) (j:=1) rfl rfl (by omega))<|Ae rfl<|Aa ?_
 obtain ⟨c5,u5⟩:=AG g1 (.one (.tl (.tl (.tl (.tl (.tl (.tl (.tl (.tl (.tl (.tl (.tl .hd))))))))))) (.one (.tl (.tl (.tl (.tl (.tl (.tl (.tl (.tl (.tl (.tl (.tl .hd))))))))))) (.one (.tl (.tl (.tl (.tl (.tl (.tl (.tl (.tl (.tl (.tl (.tl .hd))))))))))) (.one (.tl (.tl (.tl (.tl (.tl (.tl (.tl (.tl (.tl (.tl (.tl .hd))))))))))) (.one (.tl (.tl (.tl (.tl (.tl (.tl (.tl (.tl (.tl (.tl (.tl .hd))))))))))) .done)))))
 have Q5:=Tt P1 (Tt Q1 (Tt R1 (Tt U1 (Tt V1 (Tt W1 (Tt X1 (Tt P3 (Tt Q3 (Tt z1 (Tt A1 (Tt B1 (Tt C1 (Tt D1 (Tt x2 (Tt y2 (Tt j1 u5))))))))))))))))
 exact c2 (P0 + 1,b0.1.fN.1,b0.1.fN.2.1,b0.1.fN.2.2.1,b0.1.fN.2.2.2.1,b0.1.fN.2.2.2.2.1,b0.1.fN.2.2.2.2.2.1,b0.1.fN.2.2.2.2.2.2.1,b0.1.fN.2.2.2.2.2.2.2,b0.1.fD.1,b0.1.fD.2.1,b0.1.fD.2.2.1,b0.1.fD.2.2.2.1,b0.1.fD.2.2.2.2.1,b0.1.fD.2.2.2.2.2.1,b0.1.fD.2.2.2.2.2.2.1,b0.1.fD.2.2.2.2.2.2.2,Q0) _ _ ⟨rfl,rfl,rfl,rfl,rfl,rfl,rfl,rfl,rfl,rfl,rfl,rfl,trivial⟩ ⟨c5,(Tt s1 Q5)⟩ h
 refine Ac<|Ae rfl<|Ab (FV.nilCheck rfl)<|AZ 0 rfl<|BH .plain (Bo (j:=0) (old:=[.bool Q0]) (news:=[.bool true]) (new' :=[.bool true]) d1 (.tl (.tl (.tl (.tl (.tl (.tl (.tl (.tl (.tl (.tl (.tl (.tl .hd)))))))))))) rfl rfl rfl rfl rfl rfl (o1 rfl) rfl) (fun X01 D3 v5=>?_)
 refine Aa<|Ac ?_
 obtain ⟨d0,c6,h⟩:=bi h
 refine Bg (.agg ((cs_TShare d0)).toArray) body10 rfl (e2 rfl rfl) (fun w9 hw9=>wardmotelaw29_of_c n _ w9 (D3.hL0 hL hw9) (0:Int) (1:Int) c6) rfl<|AJ (cs_TShare d0) D3 .hd (onesB rfl) (fun Y01 E3 x5=>?_)
 refine Aa<|Al rfl<|Am (u:=.agg ((cs_TShare d0)).toArray) F1 Tryz.func42 rfl (.cons (.many (cs:=(cs_TShare d0)) (by kernel_rfl) rfl (E3.memA .hd)) .nil) rfl<|AJ (cs_TShare d0) E3 (.tl (.tl .hd)) (onesB rfl) (fun Z01 F3 y5=>?_)
 refine Aa<|Al rfl<|Am (u:=.agg ((cs_TShare d0)).toArray) E1 Tryz.func12 rfl (.cons (.many (cs:=(cs_TShare d0)) (by kernel_rfl) rfl (F3.memA (.tl (.tl .hd)))) .nil) rfl<|Bq 11 4095 j0 rfl rfl .plain (Aw (news:=(cs_TShare d0)) F3 (.tl (.tl (.tl (.tl (.tl (.tl (.tl (.tl (.tl (.tl (.tl .hd))))))))))) rfl rfl rfl rfl rfl rfl (onesB rfl)) (fun x3 g1 j1=>?_)
 refine AE (dk j0)<|AB<|Ao<|Ab (Bl (i:=P0) (j:=1) rfl rfl (by omega))<|Ae rfl<|Aa ?_
 obtain ⟨d5,z5⟩:=AG g1 (.one (.tl (.tl (.tl (.tl (.tl (.tl (.tl (.tl (.tl (.tl (.tl .hd))))))))))) (.one (.tl (.tl (.tl (.tl (.tl (.tl (.tl (.tl (.tl (.tl (.tl .hd))))))))))) (.one (.tl (.tl (.tl (.tl (.tl (.tl (.tl (.tl (.tl (.tl (.tl .hd))))))))))) (.one (.tl (.tl (.tl (.tl (.tl (.tl (.tl (.tl (.tl (.tl (.tl .hd))))))))))) (.one (.tl (.tl (.tl (.tl (.tl (.tl (.tl (.tl (.tl (.tl (.tl .hd))))))))))) .done)))))
 have R5:=Tt P1 (Tt Q1 (Tt R1 (Tt U1 (Tt V1 (Tt W1 (Tt X1 (Tt P3 (Tt Q3 (Tt z1 (Tt A1 (Tt B1 (Tt C1 (Tt D1 (Tt v5 (Tt x5 (Tt y5 (Tt j1 z5)))))))))))))))))
 exact c2 (P0 + 1,d0.fN.1,d0.fN.2.1,d0.fN.2.2.1,d0.fN.2.2.2.1,d0.fN.2.2.2.2.1,d0.fN.2.2.2.2.2.1,d0.fN.2.2.2.2.2.2.1,d0.fN.2.2.2.2.2.2.2,d0.fD.1,d0.fD.2.1,d0.fD.2.2.1,d0.fD.2.2.2.1,d0.fD.2.2.2.2.1,d0.fD.2.2.2.2.2.1,d0.fD.2.2.2.2.2.2.1,d0.fD.2.2.2.2.2.2.2,true) _ _ ⟨rfl,rfl,rfl,rfl,rfl,rfl,rfl,rfl,rfl,rfl,rfl,rfl,trivial⟩ ⟨d5,(Tt s1 R5)⟩ h
 refine Ac<|Ae rfl<|Ab (FV.nilCheck rfl)<|AZ 0 rfl<|BH .plain (Bo (j:=0) (old:=[.bool Q0]) (news:=[.bool true]) (new' :=[.bool true]) p2 (.tl (.tl (.tl (.tl (.tl (.tl (.tl .hd))))))) rfl rfl rfl rfl rfl rfl (o1 rfl) rfl) (fun b02 G3 R3=>?_)
 refine Aa<|Ac ?_
 obtain ⟨X0,d6,h⟩:=bi h
 refine Bg (.agg ((cs_TShare X0)).toArray) body10 rfl (e2 rfl rfl) (fun w9 hw9=>wardmotelaw29_of_c n _ w9 (G3.hL0 hL hw9) (0:Int) (1:Int) d6) rfl<|AJ (cs_TShare X0) G3 .hd (onesB rfl) (fun c02 H3 U3=>?_)
 refine Aa<|Al rfl<|Am (u:=.agg ((cs_TShare X0)).toArray) Z3 Tryz.func42 rfl (.cons (.many (cs:=(cs_TShare X0)) (by kernel_rfl) rfl (H3.memA .hd)) .nil) rfl<|AJ (cs_TShare X0) H3 (.tl (.tl .hd)) (onesB rfl) (fun d02 B3 V3=>?_)
 refine Aa<|Al rfl<|Am (u:=.agg ((cs_TShare X0)).toArray) Y3 Tryz.func13 rfl (.cons (.many (cs:=(cs_TShare X0)) (by kernel_rfl) rfl (B3.memA (.tl (.tl .hd)))) .nil) rfl<|BC (i:=10) (rk j0) (RO.enterPT (m' :=2047) (fst:=[]) (cap:=[]) (vs:=[vP t0,.agg #[vU v0,vU x0,vU y0,vU z0,vU A0,vU B0,vU C0,vU D0,vU E0,vU F0,vU G0,vU H0,vU I0,vU J0,vU K0,vU M0],.agg ((cs_TShare X0)).toArray]) (sk j0) rfl rfl .plain body12 Tryz.func12 rfl rfl rfl rfl (e3 rfl rfl rfl) rfl (fun _ V4 E1 M5=>?_))
 refine Ac<|Ai .plain rfl (Av B3 rfl rfl) (fun j6 I4 q2 z1=>?_)
 refine Ai .plain rfl (Av q2 rfl rfl) (fun k6 J4 s2 A1=>?_)
 refine Ai .plain rfl (Ar zL s2) (fun p6 K4 W0 B1=>?_)
 refine Aa<|Ac<|Ae rfl<|Ab (AA rfl (W0.memA (.tl (.tl .hd))))<|Ab (AA rfl (W0.memA (.tl .hd))) ?_
 obtain ⟨b0,A2,h⟩:=bi h
 refine Bg (.tuple #[.agg ((cs_TShare b0.1)).toArray,vI b0.2]) body43 rfl (e2 rfl rfl) (fun w9 hw9=>share_Add_c n _ w9 (W0.hL0 hL hw9) (⟨(v0,x0,y0,z0,A0,B0,C0,D0),(E0,F0,G0,H0,I0,J0,K0,M0)⟩:TShare) X0 A2) rfl<|Ab (Ah rfl rfl)<|Ab (Ah rfl rfl)<|Bj (fst:=[]) (cap:=[]) (vs:=[vP t0,.agg ((cs_TShare b0.1)).toArray,vI b0.2]) .plain body42 Tryz.func42 rfl rfl rfl rfl (e3 rfl rfl rfl) rfl (fun W4 F1 P5=>?_)
 refine Ac<|Ai .plain rfl (Av W0 rfl rfl) (fun q6 M4 t2 C1=>?_)
 refine Ai .plain rfl (Ar zL t2) (fun s6 P4 d1 D1=>?_)
 refine Aa<|Aj<|Ac<|Ae rfl<|Ab (FV.neq (i:=b0.2) (j:=0) rfl rfl)<|Aa<|MX.ifn rfl h (fun k2 h=>?_) (fun k2 h=>?_)
 refine Au<|Ac<|Ab (AA rfl (d1.memA (.tl .hd)))<|AJ (cs_TShare b0.1) d1 .hd (onesB rfl) (fun t6 x1 x2=>?_)
 refine Aa<|Al rfl<|Am (u:=.agg ((cs_TShare b0.1)).toArray) F1 Tryz.func42 rfl (.cons (.many (cs:=(cs_TShare b0.1)) (by kernel_rfl) rfl (x1.memA .hd)) .nil) rfl<|AJ (cs_TShare b0.1) x1 (.tl (.tl .hd)) (onesB rfl) (fun u6 y1 y2=>?_)
 refine Aa<|Al rfl<|Am (u:=.agg ((cs_TShare b0.1)).toArray) E1 Tryz.func12 rfl (.cons (.many (cs:=(cs_TShare b0.1)) (by kernel_rfl) rfl (y1.memA (.tl (.tl .hd)))) .nil) rfl<|Bq 11 4095 j0 rfl rfl .plain (Aw (news:=(cs_TShare b0.1)) y1 (.tl (.tl (.tl (.tl (.tl (.tl (.tl (.tl (.tl (.tl (.tl .hd))))))))))) rfl rfl rfl rfl rfl rfl (onesB rfl)) (fun x3 g1 j1=>?_)
 refine AE (dk j0)<|AB<|Ao<|Ab (Bl (i:=P0) (j:=1) rfl rfl (by omega))<|Ae rfl<|Aa ?_
 obtain ⟨g5,A5⟩:=AG g1 (.one (.tl (.tl (.tl (.tl (.tl (.tl (.tl (.tl (.tl (.tl (.tl .hd))))))))))) (.one (.tl (.tl (.tl (.tl (.tl (.tl (.tl (.tl (.tl (.tl (.tl .hd))))))))))) (.one (.tl (.tl (.tl (.tl (.tl (.tl (.tl (.tl (.tl (.tl (.tl .hd))))))))))) (.one (.tl (.tl (.tl (.tl (.tl (.tl (.tl (.tl (.tl (.tl (.tl .hd))))))))))) (.one (.tl (.tl (.tl (.tl (.tl (.tl (.tl (.tl (.tl (.tl (.tl .hd))))))))))) .done)))))
 have U5:=Tt P1 (Tt Q1 (Tt R1 (Tt U1 (Tt V1 (Tt W1 (Tt X1 (Tt R3 (Tt U3 (Tt V3 (Tt z1 (Tt A1 (Tt B1 (Tt C1 (Tt D1 (Tt x2 (Tt y2 (Tt j1 A5)))))))))))))))))
 exact c2 (P0 + 1,b0.1.fN.1,b0.1.fN.2.1,b0.1.fN.2.2.1,b0.1.fN.2.2.2.1,b0.1.fN.2.2.2.2.1,b0.1.fN.2.2.2.2.2.1,b0.1.fN.2.2.2.2.2.2.1,b0.1.fN.2.2.2.2.2.2.2,b0.1.fD.1,b0.1.fD.2.1,b0.1.fD.2.2.1,b0.1.fD.2.2.2.1,b0.1.fD.2.2.2.2.1,b0.1.fD.2.2.2.2.2.1,b0.1.fD.2.2.2.2.2.2.1,b0.1.fD.2.2.2.2.2.2.2,true) _ _ ⟨rfl,rfl,rfl,rfl,rfl,rfl,rfl,rfl,rfl,rfl,rfl,rfl,trivial⟩ ⟨g5,(Tt s1 U5)⟩ h
 refine Ac<|Ae rfl<|Ab (FV.nilCheck rfl)<|AZ 0 rfl<|BH .plain (Bo (j:=0) (old:=[.bool true]) (news:=[.bool true]) (new' :=[.bool true]) d1 (.tl (.tl (.tl (.tl (.tl (.tl (.tl (.tl (.tl (.tl (.tl (.tl .hd)))))))))))) rfl rfl rfl rfl rfl rfl (o1 rfl) rfl) (fun g02 I3 B5=>?_)
 refine Aa<|Ac ?_
 obtain ⟨g0,g6,h⟩:=bi h
 refine Bg (.agg ((cs_TShare g0)).toArray) body10 rfl (e2 rfl rfl) (fun w9 hw9=>wardmotelaw29_of_c n _ w9 (I3.hL0 hL hw9) (0:Int) (1:Int) g6) rfl<|AJ (cs_TShare g0) I3 .hd (onesB rfl) (fun j02 J3 C5=>?_)
 refine Aa<|Al rfl<|Am (u:=.agg ((cs_TShare g0)).toArray) F1 Tryz.func42 rfl (.cons (.many (cs:=(cs_TShare g0)) (by kernel_rfl) rfl (J3.memA .hd)) .nil) rfl<|AJ (cs_TShare g0) J3 (.tl (.tl .hd)) (onesB rfl) (fun k02 K3 D5=>?_)
 refine Aa<|Al rfl<|Am (u:=.agg ((cs_TShare g0)).toArray) E1 Tryz.func12 rfl (.cons (.many (cs:=(cs_TShare g0)) (by kernel_rfl) rfl (K3.memA (.tl (.tl .hd)))) .nil) rfl<|Bq 11 4095 j0 rfl rfl .plain (Aw (news:=(cs_TShare g0)) K3 (.tl (.tl (.tl (.tl (.tl (.tl (.tl (.tl (.tl (.tl (.tl .hd))))))))))) rfl rfl rfl rfl rfl rfl (onesB rfl)) (fun x3 g1 j1=>?_)
 refine AE (dk j0)<|AB<|Ao<|Ab (Bl (i:=P0) (j:=1) rfl rfl (by omega))<|Ae rfl<|Aa ?_
 obtain ⟨j5,E5⟩:=AG g1 (.one (.tl (.tl (.tl (.tl (.tl (.tl (.tl (.tl (.tl (.tl (.tl .hd))))))))))) (.one (.tl (.tl (.tl (.tl (.tl (.tl (.tl (.tl (.tl (.tl (.tl .hd))))))))))) (.one (.tl (.tl (.tl (.tl (.tl (.tl (.tl (.tl (.tl (.tl (.tl .hd))))))))))) (.one (.tl (.tl (.tl (.tl (.tl (.tl (.tl (.tl (.tl (.tl (.tl .hd))))))))))) (.one (.tl (.tl (.tl (.tl (.tl (.tl (.tl (.tl (.tl (.tl (.tl .hd))))))))))) .done)))))
 have V5:=Tt P1 (Tt Q1 (Tt R1 (Tt U1 (Tt V1 (Tt W1 (Tt X1 (Tt R3 (Tt U3 (Tt V3 (Tt z1 (Tt A1 (Tt B1 (Tt C1 (Tt D1 (Tt B5 (Tt C5 (Tt D5 (Tt j1 E5))))))))))))))))))
 exact c2 (P0 + 1,g0.fN.1,g0.fN.2.1,g0.fN.2.2.1,g0.fN.2.2.2.1,g0.fN.2.2.2.2.1,g0.fN.2.2.2.2.2.1,g0.fN.2.2.2.2.2.2.1,g0.fN.2.2.2.2.2.2.2,g0.fD.1,g0.fD.2.1,g0.fD.2.2.1,g0.fD.2.2.2.1,g0.fD.2.2.2.2.1,g0.fD.2.2.2.2.2.1,g0.fD.2.2.2.2.2.2.1,g0.fD.2.2.2.2.2.2.2,true) _ _ ⟨rfl,rfl,rfl,rfl,rfl,rfl,rfl,rfl,rfl,rfl,rfl,rfl,trivial⟩ ⟨j5,(Tt s1 V5)⟩ h
 refine RO.enterPT (m' :=1021) (fst:=[]) (cap:=[]) (vs:=[vP t0,.agg ((cs_TShare y3)).toArray,.agg ((cs_TShare c4)).toArray]) (sk j0) rfl rfl .plain body13 Tryz.func13 rfl rfl rfl rfl (e3 rfl rfl rfl) rfl (fun _ V7 Y3 q00=>?_)
 refine Ac<|Ai .plain rfl (Av p1 rfl rfl) (fun M01 s7 Y4 R1=>?_)
 refine Ai .plain rfl (Av Y4 rfl rfl) (fun P01 t7 Z4 U1=>?_)
 refine Ai .plain rfl (Ar zL Z4) (fun Q01 u7 M1 V1=>?_)
 refine Aa<|Ac<|Ae rfl<|Ab (AA rfl (M1.memA (.tl (.tl .hd))))<|Ab (AA rfl (M1.memA (.tl .hd))) ?_
 obtain ⟨u0,b6,h⟩:=bi h
 refine Bg (.tuple #[.agg ((cs_TShare u0.1)).toArray,vI u0.2]) body44 rfl (e2 rfl rfl) (fun w9 hw9=>share_Mul_c n _ w9 (M1.hL0 hL hw9) y3 c4 b6) rfl<|Ab (Ah rfl rfl)<|Ab (Ah rfl rfl)<|Bj (fst:=[]) (cap:=[]) (vs:=[vP t0,.agg ((cs_TShare u0.1)).toArray,vI u0.2]) .plain body42 Tryz.func42 rfl rfl rfl rfl (e3 rfl rfl rfl) rfl (fun W7 Z3 s00=>?_)
 refine Ac<|Ai .plain rfl (Av M1 rfl rfl) (fun R01 v7 b5 W1=>?_)
 refine Ai .plain rfl (Ar zL b5) (fun U01 x7 p2 X1=>?_)
 refine Aa<|Aj<|Ac<|Ae rfl<|Ab (FV.neq (i:=u0.2) (j:=0) rfl rfl)<|Aa<|MX.ifn rfl h (fun U4 h=>?_) (fun U4 h=>?_)
 refine Au<|Ac<|Ab (AA rfl (p2.memA (.tl .hd)))<|AJ (cs_TShare u0.1) p2 .hd (onesB rfl) (fun V01 C3 P3=>?_)
 refine Aa<|Al rfl<|Am (u:=.agg ((cs_TShare u0.1)).toArray) Z3 Tryz.func42 rfl (.cons (.many (cs:=(cs_TShare u0.1)) (by kernel_rfl) rfl (C3.memA .hd)) .nil) rfl<|AJ (cs_TShare u0.1) C3 (.tl (.tl .hd)) (onesB rfl) (fun W01 A3 Q3=>?_)
 refine Aa<|Al rfl<|Am (u:=.agg ((cs_TShare u0.1)).toArray) Y3 Tryz.func13 rfl (.cons (.many (cs:=(cs_TShare u0.1)) (by kernel_rfl) rfl (A3.memA (.tl (.tl .hd)))) .nil) rfl<|AC 1 1023 3072 j0 rfl G1 (AA rfl (A3.memA (.tl (.tl (.tl (.tl (.tl (.tl .hd)))))))) rfl<|BC (i:=10) (rk j0) (RO.enterPT (m' :=2047) (fst:=[]) (cap:=[]) (vs:=[vP t0,.agg #[vU v0,vU x0,vU y0,vU z0,vU A0,vU B0,vU C0,vU D0,vU E0,vU F0,vU G0,vU H0,vU I0,vU J0,vU K0,vU M0],.agg ((cs_TShare u0.1)).toArray]) (sk j0) rfl rfl .plain body12 Tryz.func12 rfl rfl rfl rfl (e3 rfl rfl rfl) rfl (fun _ V4 E1 M5=>?_))
 refine Ac<|Ai .plain rfl (Av A3 rfl rfl) (fun j6 I4 q2 z1=>?_)
 refine Ai .plain rfl (Av q2 rfl rfl) (fun k6 J4 s2 A1=>?_)
 refine Ai .plain rfl (Ar zL s2) (fun p6 K4 W0 B1=>?_)
 refine Aa<|Ac<|Ae rfl<|Ab (AA rfl (W0.memA (.tl (.tl .hd))))<|Ab (AA rfl (W0.memA (.tl .hd))) ?_
 obtain ⟨b0,A2,h⟩:=bi h
 refine Bg (.tuple #[.agg ((cs_TShare b0.1)).toArray,vI b0.2]) body43 rfl (e2 rfl rfl) (fun w9 hw9=>share_Add_c n _ w9 (W0.hL0 hL hw9) (⟨(v0,x0,y0,z0,A0,B0,C0,D0),(E0,F0,G0,H0,I0,J0,K0,M0)⟩:TShare) u0.1 A2) rfl<|Ab (Ah rfl rfl)<|Ab (Ah rfl rfl)<|Bj (fst:=[]) (cap:=[]) (vs:=[vP t0,.agg ((cs_TShare b0.1)).toArray,vI b0.2]) .plain body42 Tryz.func42 rfl rfl rfl rfl (e3 rfl rfl rfl) rfl (fun W4 F1 P5=>?_)
 refine Ac<|Ai .plain rfl (Av W0 rfl rfl) (fun q6 M4 t2 C1=>?_)
 refine Ai .plain rfl (Ar zL t2) (fun s6 P4 d1 D1=>?_)
 refine Aa<|Aj<|Ac<|Ae rfl<|Ab (FV.neq (i:=b0.2) (j:=0) rfl rfl)<|Aa<|MX.ifn rfl h (fun k2 h=>?_) (fun k2 h=>?_)
 refine Au<|Ac<|Ab (AA rfl (d1.memA (.tl .hd)))<|AJ (cs_TShare b0.1) d1 .hd (onesB rfl) (fun t6 x1 x2=>?_)
 refine Aa<|Al rfl<|Am (u:=.agg ((cs_TShare b0.1)).toArray) F1 Tryz.func42 rfl (.cons (.many (cs:=(cs_TShare b0.1)) (by kernel_rfl) rfl (x1.memA .hd)) .nil) rfl<|AJ (cs_TShare b0.1) x1 (.tl (.tl .hd)) (onesB rfl) (fun u6 y1 y2=>?_)
 refine Aa<|Al rfl<|Am (u:=.agg ((cs_TShare b0.1)).toArray) E1 Tryz.func12 rfl (.cons (.many (cs:=(cs_TShare b0.1)) (by kernel_rfl) rfl (y1.memA (.tl (.tl .hd)))) .nil) rfl<|Bq 11 4095 j0 rfl rfl .plain (Aw (news:=(cs_TShare b0.1)) y1 (.tl (.tl (.tl (.tl (.tl (.tl (.tl (.tl (.tl (.tl (.tl .hd))))))))))) rfl rfl rfl rfl rfl rfl (onesB rfl)) (fun x3 g1 j1=>?_)
 refine AE (dk j0)<|AB<|Ao<|Ab (Bl (i:=P0) (j:=1) rfl rfl (by omega))<|Ae rfl<|Aa ?_
 obtain ⟨c5,u5⟩:=AG g1 (.one (.tl (.tl (.tl (.tl (.tl (.tl (.tl (.tl (.tl (.tl (.tl .hd))))))))))) (.one (.tl (.tl (.tl (.tl (.tl (.tl (.tl (.tl (.tl (.tl (.tl .hd))))))))))) (.one (.tl (.tl (.tl (.tl (.tl (.tl (.tl (.tl (.tl (.tl (.tl .hd))))))))))) (.one (.tl (.tl (.tl (.tl (.tl (.tl (.tl (.tl (.tl (.tl (.tl .hd))))))))))) (.one (.tl (.tl (.tl (.tl (.tl (.tl (.tl (.tl (.tl (.tl (.tl .hd))))))))))) .done)))))
 have Q5:=Tt P1 (Tt Q1 (Tt R1 (Tt U1 (Tt V1 (Tt W1 (Tt X1 (Tt P3 (Tt Q3 (Tt z1 (Tt A1 (Tt B1 (Tt C1 (Tt D1 (Tt x2 (Tt y2 (Tt j1 u5))))))))))))))))
 exact c2 (P0 + 1,b0.1.fN.1,b0.1.fN.2.1,b0.1.fN.2.2.1,b0.1.fN.2.2.2.1,b0.1.fN.2.2.2.2.1,b0.1.fN.2.2.2.2.2.1,b0.1.fN.2.2.2.2.2.2.1,b0.1.fN.2.2.2.2.2.2.2,b0.1.fD.1,b0.1.fD.2.1,b0.1.fD.2.2.1,b0.1.fD.2.2.2.1,b0.1.fD.2.2.2.2.1,b0.1.fD.2.2.2.2.2.1,b0.1.fD.2.2.2.2.2.2.1,b0.1.fD.2.2.2.2.2.2.2,Q0) _ _ ⟨rfl,rfl,rfl,rfl,rfl,rfl,rfl,rfl,rfl,rfl,rfl,rfl,trivial⟩ ⟨c5,(Tt s1 Q5)⟩ h
 refine Ac<|Ae rfl<|Ab (FV.nilCheck rfl)<|AZ 0 rfl<|BH .plain (Bo (j:=0) (old:=[.bool Q0]) (news:=[.bool true]) (new' :=[.bool true]) d1 (.tl (.tl (.tl (.tl (.tl (.tl (.tl (.tl (.tl (.tl (.tl (.tl .hd)))))))))))) rfl rfl rfl rfl rfl rfl (o1 rfl) rfl) (fun X01 D3 v5=>?_)
 refine Aa<|Ac ?_
 obtain ⟨d0,c6,h⟩:=bi h
 refine Bg (.agg ((cs_TShare d0)).toArray) body10 rfl (e2 rfl rfl) (fun w9 hw9=>wardmotelaw29_of_c n _ w9 (D3.hL0 hL hw9) (0:Int) (1:Int) c6) rfl<|AJ (cs_TShare d0) D3 .hd (onesB rfl) (fun Y01 E3 x5=>?_)
 refine Aa<|Al rfl<|Am (u:=.agg ((cs_TShare d0)).toArray) F1 Tryz.func42 rfl (.cons (.many (cs:=(cs_TShare d0)) (by kernel_rfl) rfl (E3.memA .hd)) .nil) rfl<|AJ (cs_TShare d0) E3 (.tl (.tl .hd)) (onesB rfl) (fun Z01 F3 y5=>?_)
 refine Aa<|Al rfl<|Am (u:=.agg ((cs_TShare d0)).toArray) E1 Tryz.func12 rfl (.cons (.many (cs:=(cs_TShare d0)) (by kernel_rfl) rfl (F3.memA (.tl (.tl .hd)))) .nil) rfl<|Bq 11 4095 j0 rfl rfl .plain (Aw (news:=(cs_TShare d0)) F3 (.tl (.tl (.tl (.tl (.tl (.tl (.tl (.tl (.tl (.tl (.tl .hd))))))))))) rfl rfl rfl rfl rfl rfl (onesB rfl)) (fun x3 g1 j1=>?_)
 refine AE (dk j0)<|AB<|Ao<|Ab (Bl (i:=P0) (j:=1) rfl rfl (by omega))<|Ae rfl<|Aa ?_
 obtain ⟨d5,z5⟩:=AG g1 (.one (.tl (.tl (.tl (.tl (.tl (.tl (.tl (.tl (.tl (.tl (.tl .hd))))))))))) (.one (.tl (.tl (.tl (.tl (.tl (.tl (.tl (.tl (.tl (.tl (.tl .hd))))))))))) (.one (.tl (.tl (.tl (.tl (.tl (.tl (.tl (.tl (.tl (.tl (.tl .hd))))))))))) (.one (.tl (.tl (.tl (.tl (.tl (.tl (.tl (.tl (.tl (.tl (.tl .hd))))))))))) (.one (.tl (.tl (.tl (.tl (.tl (.tl (.tl (.tl (.tl (.tl (.tl .hd))))))))))) .done)))))
 have R5:=Tt P1 (Tt Q1 (Tt R1 (Tt U1 (Tt V1 (Tt W1 (Tt X1 (Tt P3 (Tt Q3 (Tt z1 (Tt A1 (Tt B1 (Tt C1 (Tt D1 (Tt v5 (Tt x5 (Tt y5 (Tt j1 z5)))))))))))))))))
 exact c2 (P0 + 1,d0.fN.1,d0.fN.2.1,d0.fN.2.2.1,d0.fN.2.2.2.1,d0.fN.2.2.2.2.1,d0.fN.2.2.2.2.2.1,d0.fN.2.2.2.2.2.2.1,d0.fN.2.2.2.2.2.2.2,d0.fD.1,d0.fD.2.1,d0.fD.2.2.1,d0.fD.2.2.2.1,d0.fD.2.2.2.2.1,d0.fD.2.2.2.2.2.1,d0.fD.2.2.2.2.2.2.1,d0.fD.2.2.2.2.2.2.2,true) _ _ ⟨rfl,rfl,rfl,rfl,rfl,rfl,rfl,rfl,rfl,rfl,rfl,rfl,trivial⟩ ⟨d5,(Tt s1 R5)⟩ h
 refine Ac<|Ae rfl<|Ab (FV.nilCheck rfl)<|AZ 0 rfl<|BH .plain (Bo (j:=0) (old:=[.bool Q0]) (news:=[.bool true]) (new' :=[.bool true]) p2 (.tl (.tl (.tl (.tl (.tl (.tl (.tl .hd))))))) rfl rfl rfl rfl rfl rfl (o1 rfl) rfl) (fun b02 G3 R3=>?_)
 refine Aa<|Ac ?_
 obtain ⟨X0,d6,h⟩:=bi h
 refine Bg (.agg ((cs_TShare X0)).toArray) body10 rfl (e2 rfl rfl) (fun w9 hw9=>wardmotelaw29_of_c n _ w9 (G3.hL0 hL hw9) (0:Int) (1:Int) d6) rfl<|AJ (cs_TShare X0) G3 .hd (onesB rfl) (fun c02 H3 U3=>?_)
 refine Aa<|Al rfl<|Am (u:=.agg ((cs_TShare X0)).toArray) Z3 Tryz.func42 rfl (.cons (.many (cs:=(cs_TShare X0)) (by kernel_rfl) rfl (H3.memA .hd)) .nil) rfl<|AJ (cs_TShare X0) H3 (.tl (.tl .hd)) (onesB rfl) (fun d02 B3 V3=>?_)
 refine Aa<|Al rfl<|Am (u:=.agg ((cs_TShare X0)).toArray) Y3 Tryz.func13 rfl (.cons (.many (cs:=(cs_TShare X0)) (by kernel_rfl) rfl (B3.memA (.tl (.tl .hd)))) .nil) rfl<|AC 1 1023 3072 j0 rfl G1 (AA rfl (B3.memA (.tl (.tl (.tl (.tl (.tl (.tl .hd)))))))) rfl<|BC (i:=10) (rk j0) (RO.enterPT (m' :=2047) (fst:=[]) (cap:=[]) (vs:=[vP t0,.agg #[vU v0,vU x0,vU y0,vU z0,vU A0,vU B0,vU C0,vU D0,vU E0,vU F0,vU G0,vU H0,vU I0,vU J0,vU K0,vU M0],.agg ((cs_TShare X0)).toArray]) (sk j0) rfl rfl .plain body12 Tryz.func12 rfl rfl rfl rfl (e3 rfl rfl rfl) rfl (fun _ V4 E1 M5=>?_))
 refine Ac<|Ai .plain rfl (Av B3 rfl rfl) (fun j6 I4 q2 z1=>?_)
 refine Ai .plain rfl (Av q2 rfl rfl) (fun k6 J4 s2 A1=>?_)
 refine Ai .plain rfl (Ar zL s2) (fun p6 K4 W0 B1=>?_)
 refine Aa<|Ac<|Ae rfl<|Ab (AA rfl (W0.memA (.tl (.tl .hd))))<|Ab (AA rfl (W0.memA (.tl .hd))) ?_
 obtain ⟨b0,A2,h⟩:=bi h
 refine Bg (.tuple #[.agg ((cs_TShare b0.1)).toArray,vI b0.2]) body43 rfl (e2 rfl rfl) (fun w9 hw9=>share_Add_c n _ w9 (W0.hL0 hL hw9) (⟨(v0,x0,y0,z0,A0,B0,C0,D0),(E0,F0,G0,H0,I0,J0,K0,M0)⟩:TShare) X0 A2) rfl<|Ab (Ah rfl rfl)<|Ab (Ah rfl rfl)<|Bj (fst:=[]) (cap:=[]) (vs:=[vP t0,.agg ((cs_TShare b0.1)).toArray,vI b0.2]) .plain body42 Tryz.func42 rfl rfl rfl rfl (e3 rfl rfl rfl) rfl (fun W4 F1 P5=>?_)
 refine Ac<|Ai .plain rfl (Av W0 rfl rfl) (fun q6 M4 t2 C1=>?_)
 refine Ai .plain rfl (Ar zL t2) (fun s6 P4 d1 D1=>?_)
 refine Aa<|Aj<|Ac<|Ae rfl<|Ab (FV.neq (i:=b0.2) (j:=0) rfl rfl)<|Aa<|MX.ifn rfl h (fun k2 h=>?_) (fun k2 h=>?_)
 refine Au<|Ac<|Ab (AA rfl (d1.memA (.tl .hd)))<|AJ (cs_TShare b0.1) d1 .hd (onesB rfl) (fun t6 x1 x2=>?_)
 refine Aa<|Al rfl<|Am (u:=.agg ((cs_TShare b0.1)).toArray) F1 Tryz.func42 rfl (.cons (.many (cs:=(cs_TShare b0.1)) (by kernel_rfl) rfl (x1.memA .hd)) .nil) rfl<|AJ (cs_TShare b0.1) x1 (.tl (.tl .hd)) (onesB rfl) (fun u6 y1 y2=>?_)
 refine Aa<|Al rfl<|Am (u:=.agg ((cs_TShare b0.1)).toArray) E1 Tryz.func12 rfl (.cons (.many (cs:=(cs_TShare b0.1)) (by kernel_rfl) rfl (y1.memA (.tl (.tl .hd)))) .nil) rfl<|Bq 11 4095 j0 rfl rfl .plain (Aw (news:=(cs_TShare b0.1)) y1 (.tl (.tl (.tl (.tl (.tl (.tl (.tl (.tl (.tl (.tl (.tl .hd))))))))))) rfl rfl rfl rfl rfl rfl (onesB rfl)) (fun x3 g1 j1=>?_)
 refine AE (dk j0)<|AB<|Ao<|Ab (Bl (i:=P0) (j:=1) rfl rfl (by omega))<|Ae rfl<|Aa ?_
 obtain ⟨g5,A5⟩:=AG g1 (.one (.tl (.tl (.tl (.tl (.tl (.tl (.tl (.tl (.tl (.tl (.tl .hd))))))))))) (.one (.tl (.tl (.tl (.tl (.tl (.tl (.tl (.tl (.tl (.tl (.tl .hd))))))))))) (.one (.tl (.tl (.tl (.tl (.tl (.tl (.tl (.tl (.tl (.tl (.tl .hd))))))))))) (.one (.tl (.tl (.tl (.tl (.tl (.tl (.tl (.tl (.tl (.tl (.tl .hd))))))))))) (.one (.tl (.tl (.tl (.tl (.tl (.tl (.tl (.tl (.tl (.tl (.tl .hd))))))))))) .done)))))
 have U5:=Tt P1 (Tt Q1 (Tt R1 (Tt U1 (Tt V1 (Tt W1 (Tt X1 (Tt R3 (Tt U3 (Tt V3 (Tt z1 (Tt A1 (Tt B1 (Tt C1 (Tt D1 (Tt x2 (Tt y2 (Tt j1 A5)))))))))))))))))
 exact c2 (P0 + 1,b0.1.fN.1,b0.1.fN.2.1,b0.1.fN.2.2.1,b0.1.fN.2.2.2.1,b0.1.fN.2.2.2.2.1,b0.1.fN.2.2.2.2.2.1,b0.1.fN.2.2.2.2.2.2.1,b0.1.fN.2.2.2.2.2.2.2,b0.1.fD.1,b0.1.fD.2.1,b0.1.fD.2.2.1,b0.1.fD.2.2.2.1,b0.1.fD.2.2.2.2.1,b0.1.fD.2.2.2.2.2.1,b0.1.fD.2.2.2.2.2.2.1,b0.1.fD.2.2.2.2.2.2.2,true) _ _ ⟨rfl,rfl,rfl,rfl,rfl,rfl,rfl,rfl,rfl,rfl,rfl,rfl,trivial⟩ ⟨g5,(Tt s1 U5)⟩ h
 refine Ac<|Ae rfl<|Ab (FV.nilCheck rfl)<|AZ 0 rfl<|BH .plain (Bo (j:=0) (old:=[.bool true]) (news:=[.bool true]) (new' :=[.bool true]) d1 (.tl (.tl (.tl (.tl (.tl (.tl (.tl (.tl (.tl (.tl (.tl (.tl .hd)))))))))))) rfl rfl rfl rfl rfl rfl (o1 rfl) rfl) (fun g02 I3 B5=>?_)
 refine Aa<|Ac ?_
 obtain ⟨g0,g6,h⟩:=bi h
 refine Bg (.agg ((cs_TShare g0)).toArray) body10 rfl (e2 rfl rfl) (fun w9 hw9=>wardmotelaw29_of_c n _ w9 (I3.hL0 hL hw9) (0:Int) (1:Int) g6) rfl<|AJ (cs_TShare g0) I3 .hd (onesB rfl) (fun j02 J3 C5=>?_)
 refine Aa<|Al rfl<|Am (u:=.agg ((cs_TShare g0)).toArray) F1 Tryz.func42 rfl (.cons (.many (cs:=(cs_TShare g0)) (by kernel_rfl) rfl (J3.memA .hd)) .nil) rfl<|AJ (cs_TShare g0) J3 (.tl (.tl .hd)) (onesB rfl) (fun k02 K3 D5=>?_)
 refine Aa<|Al rfl<|Am (u:=.agg ((cs_TShare g0)).toArray) E1 Tryz.func12 rfl (.cons (.many (cs:=(cs_TShare g0)) (by kernel_rfl) rfl (K3.memA (.tl (.tl .hd)))) .nil) rfl<|Bq 11 4095 j0 rfl rfl .plain (Aw (news:=(cs_TShare g0)) K3 (.tl (.tl (.tl (.tl (.tl (.tl (.tl (.tl (.tl (.tl (.tl .hd))))))))))) rfl rfl rfl rfl rfl rfl (onesB rfl)) (fun x3 g1 j1=>?_)
 refine AE (dk j0)<|AB<|Ao<|Ab (Bl (i:=P0) (j:=1) rfl rfl (by omega))<|Ae rfl<|Aa ?_
 obtain ⟨j5,E5⟩:=AG g1 (.one (.tl (.tl (.tl (.tl (.tl (.tl (.tl (.tl (.tl (.tl (.tl .hd))))))))))) (.one (.tl (.tl (.tl (.tl (.tl (.tl (.tl (.tl (.tl (.tl (.tl .hd))))))))))) (.one (.tl (.tl (.tl (.tl (.tl (.tl (.tl (.tl (.tl (.tl (.tl .hd))))))))))) (.one (.tl (.tl (.tl (.tl (.tl (.tl (.tl (.tl (.tl (.tl (.tl .hd))))))))))) (.one (.tl (.tl (.tl (.tl (.tl (.tl (.tl (.tl (.tl (.tl (.tl .hd))))))))))) .done)))))
 have V5:=Tt P1 (Tt Q1 (Tt R1 (Tt U1 (Tt V1 (Tt W1 (Tt X1 (Tt R3 (Tt U3 (Tt V3 (Tt z1 (Tt A1 (Tt B1 (Tt C1 (Tt D1 (Tt B5 (Tt C5 (Tt D5 (Tt j1 E5))))))))))))))))))
 exact c2 (P0 + 1,g0.fN.1,g0.fN.2.1,g0.fN.2.2.1,g0.fN.2.2.2.1,g0.fN.2.2.2.2.1,g0.fN.2.2.2.2.2.1,g0.fN.2.2.2.2.2.2.1,g0.fN.2.2.2.2.2.2.2,g0.fD.1,g0.fD.2.1,g0.fD.2.2.1,g0.fD.2.2.2.1,g0.fD.2.2.2.2.1,g0.fD.2.2.2.2.2.1,g0.fD.2.2.2.2.2.2.1,g0.fD.2.2.2.2.2.2.2,true) _ _ ⟨rfl,rfl,rfl,rfl,rfl,rfl,rfl,rfl,rfl,rfl,rfl,rfl,trivial⟩ ⟨j5,(Tt s1 V5)⟩ h
 refine Ac<|Af rfl<|Aa ?_
 have h:=thn_inl h K5
 refine Al rfl<|Bb hb0 Tryz.func3 rfl rfl ?_
 cases h
 exact p1.gv
 refine Bz 511 1 [(5,94),(6,95),(7,96),(8,97)] (F:=[(93,true)]) (U:=[]) k1 u1 (.cons rfl .nil) .nil ?_
 dsimp only [offS,List.map]
 refine Ag 9 1023 k1 rfl u1 (fun _=>BL rfl rfl) rfl<|AE (dk k1)<|Bh rfl<|Ac<|Af rfl<|Aa ?_
 have h:=thn_inl h K5
 refine Al rfl<|Bb hb0 Tryz.func3 rfl rfl ?_
 cases h
 exact p1.gv
 refine Be rfl ?_
 have h:=thn_inr h K5
 try dsimp only at h
 refine Ac<|Af rfl<|Aa<|Aj<|Ac<|AZ 3 rfl<|AY rfl ((X4.memA (.tl (.tl .hd))) 3 _ rfl) ?_
 have W5:=Tt X5 (Tt z4 (Tt A4 (Tt B4 (Tt s4 (Tt t4 s1)))))
 have P6:=Aq j2 W5
 have t03:c0.fu.length ≤ 281474976710656:=AU P6
 refine Ab (Bd (xs:=c0.fu) Tryz.underlying36 rfl P6)<|Ae rfl<|Aa<|Az ?_
 obtain ⟨B03,k00,p9⟩:=bind_in2 h
 refine Bm (α:=Int × Nat) (fun ⟨b2,Y1⟩=>[(8,vP J1),(9,vP K1),(11,b4),(12,vI V0.2),(13,vP R0),(14,vI (((a2 % (2:UInt8)).toNat:Nat):Int)),(19,vP t0),(20,vP b1),(23,vI b2),(112,Z0),(113,vI ((c0.fu.length:Nat):Int)),(114,vI ((Y1:Nat):Int))]) (fun ⟨b2,Y1⟩ F4=>St w F4 [.cells b1 [vU v0,vU x0,vU y0,vU z0,vU A0,vU B0,vU C0,vU D0,vU E0,vU F0,vU G0,vU H0,vU I0,vU J0,vU K0,vU M0] 53,.cells t0 [.bool Q0] 48,.cells R0 [vI c0.fj,vI c0.fh,vI c0.fl,Z0] 38,.cells K1 [.int .i16 a4.fN.toInt,.int .u8 (a4.fD.toNat:Int)] 30,.cells J1 [.int .i16 a3.fN.toInt,.int .u8 (a3.fD.toNat:Int)] 30]∧Tr E4 [.cells b1 [vU v0,vU x0,vU y0,vU z0,vU A0,vU B0,vU C0,vU D0,vU E0,vU F0,vU G0,vU H0,vU I0,vU J0,vU K0,vU M0] 53,.cells t0 [.bool Q0] 48,.cells R0 [vI c0.fj,vI c0.fh,vI c0.fl,Z0] 38,.cells K1 [.int .i16 a4.fN.toInt,.int .u8 (a4.fD.toNat:Int)] 30,.cells J1 [.int .i16 a3.fN.toInt,.int .u8 (a3.fD.toNat:Int)] 30] F4 [.cells b1 [vU v0,vU x0,vU y0,vU z0,vU A0,vU B0,vU C0,vU D0,vU E0,vU F0,vU G0,vU H0,vU I0,vU J0,vU K0,vU M0] 53,.cells t0 [.bool Q0] 48,.cells R0 [vI c0.fj,vI c0.fh,vI c0.fl,Z0] 38,.cells K1 [.int .i16 a4.fN.toInt,.int .u8 (a4.fD.toNat:Int)] 30,.cells J1 [.int .i16 a3.fN.toInt,.int .u8 (a3.fD.toNat:Int)] 30]) (fun ⟨b2,Y1⟩=>(b2,Y1)) (0,0) k00 ⟨rfl,rfl,rfl,rfl,rfl,rfl,rfl,rfl,rfl,rfl,rfl,rfl,trivial⟩ ⟨X4,AQ _ _⟩ ?_
 rintro J02 ⟨b2,Y1⟩ F4 Z7 ⟨u2,u4⟩ h
 unfold wardmotelaw29_MinorityCounts_l2 at h
 try dsimp only at h
 refine Ac<|Ab (Br (i:=Y1) (j:=c0.fu.length) rfl rfl)<|Aa<|Aj<|AV rfl h (fun B7 h=>?_) (fun B7 h=>?_)
 refine Au<|Aj<|Az<|Ac ?_
 obtain ⟨y6,R00,h⟩:=bi h
 have E9:=Aq j2 (Tt W5 u4)
 obtain ⟨F02,X02,b9,t9,c03,D00,D9⟩:=Bk E9 R00
 obtain ⟨E01,F01,G01,rfl,X6,E00,F00⟩:=op_TUnit D00
 refine Ab (Bp 6 Y1 rfl b9 rfl rfl t9)<|Ab (AA rfl D9)<|Ai .plain rfl (Ar [.string ⟨#[]⟩,vI 0,vN,vN,vN,.bool false] u2) (fun U03 R02 k8 W3=>?_)
 have F9:=Aq X6 W3
 have G9:=Aq E00 W3
 have H9:=Aq F00 W3
 refine AJ [.string y6.fC,vI y6.fA,E01,F01,G01,.bool y6.fq] k8 .hd (o6 rfl rfl (AN F9) (AN G9) (AN H9) rfl) (fun V03 D6 F6=>?_)
 refine Aa<|Ao<|Ae rfl<|AZ 2 rfl<|AY rfl ((D6.memA .hd) 2 _ rfl)<|Ae rfl ?_
 obtain ⟨d7,U00,h⟩:=bi h
 have J9:=Aq X6 (Tt W3 F6)
 obtain ⟨G02,Y02,c9,u9,X7,G00,I9⟩:=Bk J9 U00
 have d9:X7 = [vI d7]:=G00; subst d9
 refine Ab (Bp 1 ((a2 % (2:UInt8)).toNat) rfl c9 rfl rfl u9)<|AY rfl (I9 0 _ rfl) ?_
 obtain ⟨D01,K00,h⟩:=bi h
 refine Ab (BD (i:=b2) (j:=d7) rfl rfl K00)<|Af rfl<|Aa<|AB<|Ao<|Ab (Bl (i:=Y1) (j:=1) rfl rfl (by omega))<|Ae rfl<|Aa ?_
 obtain ⟨p8,F8⟩:=AG D6 (.one (.tl .hd) (.one (.tl .hd) (.one (.tl .hd) (.one (.tl .hd) (.one (.tl .hd) .done)))))
 have v00:=Tt W3 (Tt F6 F8)
 exact Z7 (D01,Y1 + 1) _ _ ⟨rfl,rfl,rfl,rfl,rfl,rfl,rfl,rfl,rfl,rfl,rfl,rfl,trivial⟩ ⟨p8,(Tt u4 v00)⟩ h
 refine Be rfl ?_
 have h:=p9 _ h
 try dsimp only at h
 refine Aj<|dt 6 tb3_25 (fun v1 D4=>?_)
 refine AC 0 1 202 v1 rfl D4 (AA rfl (u2.memA (.tl (.tl (.tl (.tl .hd)))))) rfl ?_
 obtain ⟨k0,c01,h⟩:=bi h
 refine BA 1 3 200 (.agg ((cs_TShare k0)).toArray) v1 rfl D4 body14 rfl (e1 rfl) (fun w9 hw9=>wardmoteref22_Part_Unit_c n _ w9 (u2.hL0 hL hw9) a3 c01) rfl<|AC 2 7 200 v1 rfl D4 (AA rfl (u2.memA (.tl (.tl (.tl .hd))))) rfl ?_
 obtain ⟨p0,d01,h⟩:=bi h
 refine BA 3 15 192 (.agg ((cs_TShare p0)).toArray) v1 rfl D4 body14 rfl (e1 rfl) (fun w9 hw9=>wardmoteref22_Part_Unit_c n _ w9 (u2.hL0 hL hw9) a4 d01) rfl<|RD.meet (α:=Nat × Nat) (fun ⟨H1,I1⟩=>[(11,b4),(12,vI V0.2),(13,vP R0),(14,vI (((a2 % (2:UInt8)).toNat:Nat):Int)),(19,vP t0),(20,vP b1),(23,vI b2),(127,.agg ((cs_TShare k0)).toArray),(129,.agg ((cs_TShare p0)).toArray),(26,vP I1),(27,vP H1)]) (fun ⟨H1,I1⟩ v6=>St w v6 [.cells H1 zL 53,.cells I1 zL 53,.cells b1 [vU v0,vU x0,vU y0,vU z0,vU A0,vU B0,vU C0,vU D0,vU E0,vU F0,vU G0,vU H0,vU I0,vU J0,vU K0,vU M0] 53,.cells t0 [.bool Q0] 48,.cells R0 [vI c0.fj,vI c0.fh,vI c0.fl,Z0] 38]∧Tr F4 [.cells b1 [vU v0,vU x0,vU y0,vU z0,vU A0,vU B0,vU C0,vU D0,vU E0,vU F0,vU G0,vU H0,vU I0,vU J0,vU K0,vU M0] 53,.cells t0 [.bool Q0] 48,.cells R0 [vI c0.fj,vI c0.fh,vI c0.fl,Z0] 38,.cells K1 [.int .i16 a4.fN.toInt,.int .u8 (a4.fD.toNat:Int)] 30,.cells J1 [.int .i16 a3.fN.toInt,.int .u8 (a3.fD.toNat:Int)] 30] v6 [.cells H1 zL 53,.cells I1 zL 53,.cells b1 [vU v0,vU x0,vU y0,vU z0,vU A0,vU B0,vU C0,vU D0,vU E0,vU F0,vU G0,vU H0,vU I0,vU J0,vU K0,vU M0] 53,.cells t0 [.bool Q0] 48,.cells R0 [vI c0.fj,vI c0.fh,vI c0.fl,Z0] 38]) 2 63 ?_ ?_
 rintro ⟨H1,I1⟩ v6 ⟨q8,G6⟩
 try dsimp only
 refine Bq 6 127 v1 rfl rfl .plain (Aw (news:=(cs_TShare k0)) q8 (.tl .hd) rfl rfl rfl rfl rfl rfl (onesB rfl)) (fun W03 s8 H6=>?_)
 refine Bq 7 255 v1 rfl rfl .plain (Aw (news:=(cs_TShare p0)) s8 .hd rfl rfl rfl rfl rfl rfl (onesB rfl)) (fun s02 v2 I6=>?_)
 refine AE (dk v1)<|Aj<|Ac<|Ab (AA rfl (v2.memA .hd))<|Ab (AA rfl (v2.memA (.tl .hd))) ?_
 obtain ⟨y02,g01,h⟩:=bi h
 refine Bg (.bool y02) body11 rfl (e2 rfl rfl) (fun w9 hw9=>wardmotelaw29_atMost_c n _ w9 (v2.hL0 hL hw9) p0 k0 g01) rfl<|Aa<|MX.join (α:=UInt64 × UInt64 × UInt64 × UInt64 × UInt64 × UInt64 × UInt64 × UInt64 × UInt64 × UInt64 × UInt64 × UInt64 × UInt64 × UInt64 × UInt64 × UInt64 × UInt64 × UInt64 × UInt64 × UInt64 × UInt64 × UInt64 × UInt64 × UInt64 × UInt64 × UInt64 × UInt64 × UInt64 × UInt64 × UInt64 × UInt64 × UInt64) (fun ⟨B2,C2,D2,E2,F2,G2,H2,I2,J2,K2,M2,P2,Q2,R2,U2,V2,W2,X2,Y2,Z2,b3,c3,d3,g3,j3,k3,p3,q3,s3,t3,u3,v3⟩=>[(11,b4),(12,vI V0.2),(13,vP R0),(14,vI (((a2 % (2:UInt8)).toNat:Nat):Int)),(19,vP t0),(20,vP b1),(23,vI b2),(26,vP I1),(27,vP H1)]) (fun ⟨B2,C2,D2,E2,F2,G2,H2,I2,J2,K2,M2,P2,Q2,R2,U2,V2,W2,X2,Y2,Z2,b3,c3,d3,g3,j3,k3,p3,q3,s3,t3,u3,v3⟩ x6=>St w x6 [.cells H1 [vU B2,vU C2,vU D2,vU E2,vU F2,vU G2,vU H2,vU I2,vU J2,vU K2,vU M2,vU P2,vU Q2,vU R2,vU U2,vU V2] 53,.cells I1 [vU W2,vU X2,vU Y2,vU Z2,vU b3,vU c3,vU d3,vU g3,vU j3,vU k3,vU p3,vU q3,vU s3,vU t3,vU u3,vU v3] 53,.cells b1 [vU v0,vU x0,vU y0,vU z0,vU A0,vU B0,vU C0,vU D0,vU E0,vU F0,vU G0,vU H0,vU I0,vU J0,vU K0,vU M0] 53,.cells t0 [.bool Q0] 48,.cells R0 [vI c0.fj,vI c0.fh,vI c0.fl,Z0] 38]∧Tr s02 [.cells H1 (cs_TShare p0) 53,.cells I1 (cs_TShare k0) 53,.cells b1 [vU v0,vU x0,vU y0,vU z0,vU A0,vU B0,vU C0,vU D0,vU E0,vU F0,vU G0,vU H0,vU I0,vU J0,vU K0,vU M0] 53,.cells t0 [.bool Q0] 48,.cells R0 [vI c0.fj,vI c0.fh,vI c0.fl,Z0] 38] x6 [.cells H1 [vU B2,vU C2,vU D2,vU E2,vU F2,vU G2,vU H2,vU I2,vU J2,vU K2,vU M2,vU P2,vU Q2,vU R2,vU U2,vU V2] 53,.cells I1 [vU W2,vU X2,vU Y2,vU Z2,vU b3,vU c3,vU d3,vU g3,vU j3,vU k3,vU p3,vU q3,vU s3,vU t3,vU u3,vU v3] 53,.cells b1 [vU v0,vU x0,vU y0,vU z0,vU A0,vU B0,vU C0,vU D0,vU E0,vU F0,vU G0,vU H0,vU I0,vU J0,vU K0,vU M0] 53,.cells t0 [.bool Q0] 48,.cells R0 [vI c0.fj,vI c0.fh,vI c0.fl,Z0] 38]) (fun ⟨B2,C2,D2,E2,F2,G2,H2,I2,J2,K2,M2,P2,Q2,R2,U2,V2,W2,X2,Y2,Z2,b3,c3,d3,g3,j3,k3,p3,q3,s3,t3,u3,v3⟩=>(B2,C2,D2,E2,F2,G2,H2,I2,J2,K2,M2,P2,Q2,R2,U2,V2,W2,X2,Y2,Z2,b3,c3,d3,g3,j3,k3,p3,q3,s3,t3,u3,v3)) h ?_ ?_
 rintro ⟨B2,C2,D2,E2,F2,G2,H2,I2,J2,K2,M2,P2,Q2,R2,U2,V2,W2,X2,Y2,Z2,b3,c3,d3,g3,j3,k3,p3,q3,s3,t3,u3,v3⟩ x6 ⟨j4,J6⟩ h
 try dsimp only at h
 refine Ac<|Ab (AA rfl (j4.memA (.tl (.tl (.tl (.tl .hd))))))<|Ae rfl<|Ae rfl<|Ae rfl<|Ab (AA rfl (j4.memA .hd)) ?_
 obtain ⟨d4,j01,h⟩:=bi h
 have C4:=Tt W5 (Tt u4 (Tt G6 (Tt H6 (Tt I6 J6))))
 have K9:=Aq j2 C4
 have M9:=Aq z2 (Tt x4 C4)
 refine Bf (fst:=[]) (cap:=[]) .plain body15 rfl (e5 rfl rfl rfl rfl rfl) (fun w9 hw9=>minority_Majority_c n _ w9 (j4.hL hL hw9) c0 (Ap K9 hw9) V0.1 (Ap M9 hw9) V0.2 (((a2 % (2:UInt8)).toNat:Nat):Int) (⟨(B2,C2,D2,E2,F2,G2,H2,I2),(J2,K2,M2,P2,Q2,R2,U2,V2)⟩:TShare) j01) rfl (fun X03 E03 M8 ⟨H01,hu_,Y6⟩=>?_)
 subst hu_
 obtain ⟨k4,H5⟩:=j4.agr M8
 refine Ae rfl<|Ab (Ah rfl rfl)<|Ab (Ah rfl rfl)<|Af rfl<|Af rfl<|Aa<|Ac<|Ab (AA rfl (k4.memA (.tl (.tl (.tl (.tl .hd))))))<|Ae rfl<|Ae rfl<|Ae rfl<|Ab (AA rfl (k4.memA (.tl .hd))) ?_
 obtain ⟨z6,k01,h⟩:=bi h
 have P9:=Aq j2 (Tt C4 H5)
 have x00:=Tt W6 (Tt K6 (Tt z4 (Tt A4 (Tt B4 (Tt s4 (Tt t4 (Tt s1 (Tt u4 (Tt G6 (Tt H6 (Tt I6 (Tt J6 H5))))))))))))
 have Q9:=Aq z2 x00
 refine Bf (fst:=[]) (cap:=[]) .plain body15 rfl (e5 rfl rfl rfl rfl rfl) (fun w9 hw9=>minority_Majority_c n _ w9 (k4.hL hL hw9) c0 (Ap P9 hw9) V0.1 (Ap Q9 hw9) V0.2 (((a2 % (2:UInt8)).toNat:Nat):Int) (⟨(W2,X2,Y2,Z2,b3,c3,d3,g3),(j3,k3,p3,q3,s3,t3,u3,v3)⟩:TShare) k01) rfl (fun t02 F03 P8 ⟨I01,hu_,Z6⟩=>?_)
 subst hu_
 obtain ⟨d2,I5⟩:=k4.agr P8
 refine Ae rfl<|Ab (Ah rfl rfl)<|Ab (Ah rfl rfl)<|Af rfl<|Af rfl<|Aa<|Aj<|Aj<|dt 18 tb3_30 (fun q0 s0=>?_)
 refine Ag 0 1 q0 rfl s0 (fun _=>Ak rfl) rfl<|Ag 1 3 q0 rfl s0 (fun _=>FV.nilCheck rfl) rfl<|Ag 2 7 q0 rfl s0 (fun _=>AX 0 rfl) rfl<|AC 3 15 262128 q0 rfl s0 (AL rfl ((d2.memA (.tl (.tl (.tl .hd)))) 0 _ rfl)) rfl<|Ag 4 31 q0 rfl s0 (fun _=>Ak rfl) rfl<|RD.ifb (s:=157) rfl h (fun C7 h=>?_) (fun C7 h=>?_)
 refine Bz 511 9 [(5,158),(6,159),(7,160),(8,161)] (F:=[(157,true)]) (U:=[]) q0 s0 (.cons rfl .nil) .nil ?_
 dsimp only [offS,List.map]
 refine Ag 9 1023 q0 rfl s0 (fun _=>BL rfl rfl) rfl<|Ag 10 2047 q0 rfl s0 (fun _=>Ak rfl) rfl<|Bz 8191 5 [(11,164),(12,165)] (F:=[(163,true)]) (U:=[]) q0 s0 (.cons rfl .nil) .nil ?_
 dsimp only [offS,List.map]
 refine Ag 13 16383 q0 rfl s0 (fun _=>BL rfl rfl) rfl<|Ag 14 32767 q0 rfl s0 (fun _=>Ak rfl) rfl<|Bz 131071 1 [(15,168),(16,169)] (F:=[(167,true)]) (U:=[]) q0 s0 (.cons rfl .nil) .nil ?_
 dsimp only [offS,List.map]
 refine Ag 17 262143 q0 rfl s0 (fun _=>BL rfl rfl) rfl<|AE (dk q0)<|Bh rfl<|Ac<|Af rfl<|Aa<|Al rfl<|Bb hb0 Tryz.func3 rfl rfl ?_
 cases h
 exact d2.gv
 refine RD.val (i:=5) (m' :=63) (W:=261888) (tk q0) rfl s0 (.yes rfl rfl) (AA rfl (d2.memA (.tl (.tl .hd)))) rfl<|RD.vP 6 127 q0 rfl s0 (.yes rfl rfl) (fun _=>Ak rfl) rfl ?_
 obtain ⟨A6,p01,h⟩:=bi h
 refine RD.callq (i:=7) (m' :=255) (W:=261888) (tk q0) rfl s0 (v:=.agg ((cs_TShare A6)).toArray) (fst:=[]) (cap:=[]) (.yes rfl rfl) body10 rfl (e2 rfl rfl) (fun w9 hw9=>wardmotelaw29_of_c n _ w9 (d2.hL0 hL hw9) b2 (1:Int) p01) rfl<|RD.vP 8 511 q0 rfl s0 (.yes rfl rfl) (fun _=>FV.neqV (xs:=([vU v0,vU x0,vU y0,vU z0,vU A0,vU B0,vU C0,vU D0,vU E0,vU F0,vU G0,vU H0,vU I0,vU J0,vU K0,vU M0]).toArray) (ys:=((cs_TShare A6)).toArray) rfl rfl (by kernel_rfl) (eqlD_53 (⟨(v0,x0,y0,z0,A0,B0,C0,D0),(E0,F0,G0,H0,I0,J0,K0,M0)⟩:TShare) A6)) rfl<|Ag 9 1023 q0 rfl s0 (fun _=>Bs rfl rfl) rfl<|Ag 10 2047 q0 rfl s0 (fun _=>Ak rfl) rfl<|RD.ifn (s:=163) rfl h (fun D7 h=>?_) (fun D7 h=>?_)
 refine RD.vP 11 4095 q0 rfl s0 (.yes rfl rfl) (fun _=>Ak rfl) rfl<|RD.vP 12 8191 q0 rfl s0 (.yes rfl rfl) (fun _=>FV.neq (i:=d4.2) (j:=0) rfl rfl) rfl<|Ag 13 16383 q0 rfl s0 (fun _=>Bs rfl rfl) rfl<|Ag 14 32767 q0 rfl s0 (fun _=>Ak rfl) rfl<|RD.ifn (s:=167) rfl h (fun E7 h=>?_) (fun E7 h=>?_)
 refine RD.vP 15 65535 q0 rfl s0 (.yes rfl rfl) (fun _=>Ak rfl) rfl<|RD.vP 16 131071 q0 rfl s0 (.yes rfl rfl) (fun _=>FV.neq (i:=z6.2) (j:=0) rfl rfl) rfl<|Ag 17 262143 q0 rfl s0 (fun _=>Bs rfl rfl) rfl<|AE (dk q0)<|MX.ifn rfl h (fun F7 h=>?_) (fun F7 h=>?_)
 refine Au<|Aj<|Ac<|Ae rfl ?_
 have Q6:=Aq Y6 I5
 have u03:d4.1.length ≤ 281474976710656:=AU Q6
 refine Ab (Bd (xs:=d4.1) Tryz.underlying32 rfl Q6)<|Ae rfl<|Aa<|Az ?_
 obtain ⟨t8,v4⟩:=AG d2 (.one (.tl (.tl (.tl (.tl .hd)))) .done)
 obtain ⟨C03,p00,M6⟩:=thn_in h
 refine Bm (α:=Nat) (fun Z1=>[(11,b4),(12,vI V0.2),(13,vP R0),(14,vI (((a2 % (2:UInt8)).toNat:Nat):Int)),(29,I01),(171,H01),(172,vI ((d4.1.length:Nat):Int)),(173,vI ((Z1:Nat):Int))]) (fun Z1 G4=>St w G4 [.cells R0 [vI c0.fj,vI c0.fh,vI c0.fl,Z0] 38]∧Tr t02 [.cells R0 [vI c0.fj,vI c0.fh,vI c0.fl,Z0] 38] G4 [.cells R0 [vI c0.fj,vI c0.fh,vI c0.fl,Z0] 38]) (fun Z1=>Z1) 0 p00 ⟨rfl,rfl,rfl,rfl,rfl,rfl,rfl,rfl,trivial⟩ ⟨t8,AQ _ _⟩ ?_
 rintro M02 Z1 G4 b8 ⟨q1,X3⟩ h
 unfold wardmotelaw29_MinorityCounts_l1 at h
 try dsimp only at h
 refine Ac<|Ab (Br (i:=Z1) (j:=d4.1.length) rfl rfl)<|Aa<|Aj<|AV rfl h (fun G7 h=>?_) (fun G7 h=>?_)
 refine Au<|Aj<|Az<|Ac ?_
 obtain ⟨g7,V00,h⟩:=bi h
 have y00:=Tt I5 (Tt v4 X3)
 have U9:=Aq Y6 y00
 obtain ⟨H02,Z02,g9,x9,Y7,H00,R9⟩:=Bk U9 V00
 have k9:Y7 = [vI g7]:=H00; subst k9
 refine Ab (Bp 1 Z1 rfl g9 rfl rfl x9)<|AY rfl (R9 0 _ rfl)<|Af rfl<|Aa<|Ac<|Ae rfl<|Ae rfl ?_
 obtain ⟨z02,q01,h⟩:=bi h
 have V9:=Aq Z6 (Tt v4 X3)
 refine Bg (.bool z02) body16 rfl (e2 rfl rfl) (fun w9 hw9=>slices_Contains_int_int_c n _ w9 (q1.hL0 hL hw9) z6.1 (q1.kd V9 hw9) g7 q01) rfl<|Ab (BG rfl)<|Aa<|MX.ifnb rfl h (fun H7 h=>?_) (fun H7 h=>?_)
 refine Au<|AB<|Ao<|Ab (Bl (i:=Z1) (j:=1) rfl rfl (by omega))<|Ae rfl<|Aa ?_
 exact b8 (Z1 + 1) _ _ ⟨rfl,rfl,rfl,rfl,rfl,rfl,rfl,rfl,trivial⟩ ⟨q1,X3⟩ h
 refine Ac<|Af rfl<|Aa ?_
 have h:=thn_inl h M6
 refine Al rfl<|Bb hb0 Tryz.func3 rfl rfl ?_
 cases h
 exact q1.gv
 refine Be rfl ?_
 have h:=thn_inr h M6
 try dsimp only at h
 refine Aj<|dt 15 tb3_38 (fun U0 c1=>?_)
 refine Ag 0 1 U0 rfl c1 (fun _=>Ak rfl) rfl ?_
 obtain ⟨A02,s01,h⟩:=bi h
 have W9:=Aq Z6 (Tt v4 X3)
 refine BA 1 3 32764 (.bool A02) U0 rfl c1 body17 rfl (e1 rfl) (fun w9 hw9=>slices_IsSorted_int_int_c n _ w9 (q1.hL0 hL hw9) z6.1 (q1.kd W9 hw9) s01) rfl<|Ag 2 7 U0 rfl c1 (fun _=>Ak rfl) rfl<|RD.ifb (s:=184) rfl h (fun I7 h=>?_) (fun I7 h=>?_)
 refine RD.val (i:=4) (m' :=23) (W:=32256) (tk U0) rfl c1 (.yes rfl rfl) (AA rfl (q1.memA .hd)) rfl<|RD.vP 5 55 U0 rfl c1 (.yes rfl rfl) (fun _=>Ak rfl) rfl<|RD.vP 6 119 U0 rfl c1 (.yes rfl rfl) (fun _=>Ak rfl) rfl<|RD.vP 7 247 U0 rfl c1 (.yes rfl rfl) (fun _=>Ak rfl) rfl ?_
 have I00:=Rep.nilAt (α:=Int) q1 L
 refine Bu 3 255 U0 rfl (.yes rfl rfl) body18 rfl (e1 rfl) (fun w9 hw9=>Calls.gives (wardmotelaw29_lists_c n _ w9 (q1.hL hL hw9) ([]:List Int) (Ap I00 hw9)) fun (w8:World) (u8:Value) ⟨b0_,hu_,s_⟩=>(⟨b0_,hu_,s_.from hw9⟩:∃ g4:Nat,u8 = Value.func (.func 55) #[] #[vP g4]∧St G4 w8 [.cells g4 [vN] 32])) rfl (fun Y03 G03 s03 ⟨g4,M00,b7⟩=>?_)
 subst M00
 have q5:=mk_push1 q1 b7
 have G8:=mk_tr1 q1 b7
 obtain ⟨p7,t01,h⟩:=bi h
 refine RD.callq (i:=8) (m' :=511) (W:=32256) (tk U0) rfl c1 (v:=.agg ((cs_TShare p7)).toArray) (fst:=[]) (cap:=[]) (.yes rfl rfl) body10 rfl (e2 rfl rfl) (fun w9 hw9=>wardmotelaw29_of_c n _ w9 (q5.hL0 hL hw9) (1:Int) (1:Int) t01) rfl ?_
 obtain ⟨q7,u01,h⟩:=bi h
 have V6:=Tt C4 (Tt H5 (Tt I5 (Tt v4 (Tt X3 G8))))
 have X9:=Aq j2 V6
 have Y9:=Aq z2 (Tt x4 V6)
 refine Bu 9 1023 U0 rfl (.yes rfl rfl) body15 rfl (e5 rfl rfl rfl rfl rfl) (fun w9 hw9=>minority_Majority_c n _ w9 (q5.hL hL hw9) c0 (Ap X9 hw9) V0.1 (Ap Y9 hw9) V0.2 (((a2 % (2:UInt8)).toNat:Nat):Int) p7 u01) rfl (fun Z03 H03 Q8 ⟨D03,hu_,J00⟩=>?_)
 subst hu_
 obtain ⟨p4,g03⟩:=q5.agr Q8
 refine RD.vP 10 2047 U0 rfl c1 (.yes rfl rfl) (fun _=>Ah rfl rfl) rfl<|RD.vP 11 4095 U0 rfl c1 (.yes rfl rfl) (fun _=>Ah rfl rfl) rfl ?_
 obtain ⟨B02,v01,h⟩:=bi h
 refine RD.callq (i:=12) (m' :=8191) (W:=24576) (tk U0) rfl c1 (v:=.bool B02) (fst:=[]) (cap:=[vP g4]) (.yes rfl rfl) body55 rfl (e2 rfl rfl) (fun w9 hw9=>wardmotelaw29_lists_1_c n _ w9 (p4.hL0 hL hw9) q7.1 (p4.kd J00 hw9) q7.2 ([]:List Int) (Ap (Rep.nilSlice _ _) hw9) (fun j9 v9 h9=>hw9.cell0 ((p4.memA .hd) j9 v9 h9)) v01) rfl<|Ag 13 16383 U0 rfl c1 (fun _=>BL rfl rfl) rfl<|Ag 14 32767 U0 rfl c1 (fun _=>Bi rfl) rfl<|AE (dk U0)<|Al rfl<|Bb hb0 Tryz.func3 rfl rfl ?_
 cases h
 exact p4.gv
 refine Bz 8191 2 [(3,185),(4,186),(5,187),(6,188),(7,189),(8,190),(9,191),(10,192),(11,193),(12,194)] (F:=[(184,false)]) (U:=[]) U0 c1 (.cons rfl .nil) .nil ?_
 dsimp only [offS,List.map]
 refine Ag 13 16383 U0 rfl c1 (fun _=>Bs rfl rfl) rfl<|Ag 14 32767 U0 rfl c1 (fun _=>Bi rfl) rfl<|AE (dk U0)<|Al rfl<|Bb hb0 Tryz.func3 rfl rfl ?_
 cases h
 exact q1.gv
 refine Ac<|Af rfl<|Aa<|Al rfl<|Bb hb0 Tryz.func3 rfl rfl ?_
 cases h
 exact d2.gv
 refine Bz 131071 1 [(15,168),(16,169)] (F:=[(167,true)]) (U:=[]) q0 s0 (.cons rfl .nil) .nil ?_
 dsimp only [offS,List.map]
 refine Ag 17 262143 q0 rfl s0 (fun _=>BL rfl rfl) rfl<|AE (dk q0)<|Bh rfl<|Ac<|Af rfl<|Aa<|Al rfl<|Bb hb0 Tryz.func3 rfl rfl ?_
 cases h
 exact d2.gv
 refine Bz 8191 5 [(11,164),(12,165)] (F:=[(163,true)]) (U:=[]) q0 s0 (.cons rfl .nil) .nil ?_
 dsimp only [offS,List.map]
 refine Ag 13 16383 q0 rfl s0 (fun _=>BL rfl rfl) rfl<|Ag 14 32767 q0 rfl s0 (fun _=>Ak rfl) rfl<|Bz 131071 1 [(15,168),(16,169)] (F:=[(167,true)]) (U:=[]) q0 s0 (.cons rfl .nil) .nil ?_
 dsimp only [offS,List.map]
 refine Ag 17 262143 q0 rfl s0 (fun _=>BL rfl rfl) rfl<|AE (dk q0)<|Bh rfl<|Ac<|Af rfl<|Aa<|Al rfl<|Bb hb0 Tryz.func3 rfl rfl ?_
 cases h
 exact d2.gv
 intro K02 B6 h
 try dsimp only at h
 refine MX.ifb rfl h (fun J7 h=>?_) (fun J7 h=>?_)
 refine Ao<|Ab (AA rfl (v2.memA .hd))<|Ab (AA rfl (v2.memA (.tl .hd)))<|AJ (cs_TShare p0) v2 (.tl .hd) (onesB rfl) (fun b04 v8 H8=>?_)
 refine AJ (cs_TShare k0) v8 .hd (onesB rfl) (fun c04 x8 I8=>?_)
 refine Aa ?_
 exact B6 (k0.fN.1,k0.fN.2.1,k0.fN.2.2.1,k0.fN.2.2.2.1,k0.fN.2.2.2.2.1,k0.fN.2.2.2.2.2.1,k0.fN.2.2.2.2.2.2.1,k0.fN.2.2.2.2.2.2.2,k0.fD.1,k0.fD.2.1,k0.fD.2.2.1,k0.fD.2.2.2.1,k0.fD.2.2.2.2.1,k0.fD.2.2.2.2.2.1,k0.fD.2.2.2.2.2.2.1,k0.fD.2.2.2.2.2.2.2,p0.fN.1,p0.fN.2.1,p0.fN.2.2.1,p0.fN.2.2.2.1,p0.fN.2.2.2.2.1,p0.fN.2.2.2.2.2.1,p0.fN.2.2.2.2.2.2.1,p0.fN.2.2.2.2.2.2.2,p0.fD.1,p0.fD.2.1,p0.fD.2.2.1,p0.fD.2.2.2.1,p0.fD.2.2.2.2.1,p0.fD.2.2.2.2.2.1,p0.fD.2.2.2.2.2.2.1,p0.fD.2.2.2.2.2.2.2) _ _ ⟨rfl,rfl,rfl,rfl,rfl,rfl,rfl,rfl,rfl,trivial⟩ ⟨x8,(Tt H8 I8)⟩ h
 refine Au ?_
 exact B6 (p0.fN.1,p0.fN.2.1,p0.fN.2.2.1,p0.fN.2.2.2.1,p0.fN.2.2.2.2.1,p0.fN.2.2.2.2.2.1,p0.fN.2.2.2.2.2.2.1,p0.fN.2.2.2.2.2.2.2,p0.fD.1,p0.fD.2.1,p0.fD.2.2.1,p0.fD.2.2.2.1,p0.fD.2.2.2.2.1,p0.fD.2.2.2.2.2.1,p0.fD.2.2.2.2.2.2.1,p0.fD.2.2.2.2.2.2.2,k0.fN.1,k0.fN.2.1,k0.fN.2.2.1,k0.fN.2.2.2.1,k0.fN.2.2.2.2.1,k0.fN.2.2.2.2.2.1,k0.fN.2.2.2.2.2.2.1,k0.fN.2.2.2.2.2.2.2,k0.fD.1,k0.fD.2.1,k0.fD.2.2.1,k0.fD.2.2.2.1,k0.fD.2.2.2.2.1,k0.fD.2.2.2.2.2.1,k0.fD.2.2.2.2.2.2.1,k0.fD.2.2.2.2.2.2.2) _ _ ⟨rfl,rfl,rfl,rfl,rfl,rfl,rfl,rfl,rfl,trivial⟩ ⟨v2,AQ _ _⟩ h
 intro C6
 refine BJ [4,5] (rk v1) ⟨?_,?_,trivial⟩
 refine RO.new (m' :=31) (sk v1) rfl .plain rfl (Ar zL u2) (fun p02 Q4 k5 F5=>?_)
 refine RD.nu 5 63 v1 rfl .plain rfl (Ar zL k5) (fun q02 R4 p5 G5=>?_)
 obtain ⟨y8,J8⟩:=AG p5 (.one .hd (.one .hd (.one .hd (.one .hd (.one .hd .done)))))
 have z00:=Tt F5 (Tt G5 J8)
 exact C6 (R4,Q4) _ _ ⟨rfl,rfl,rfl,rfl,rfl,rfl,rfl,rfl,rfl,rfl,rfl,trivial⟩ ⟨y8,z00⟩
 refine RO.new (m' :=47) (sk v1) rfl .plain rfl (Ar zL u2) (fun q02 R4 p5 G5=>?_)
 refine RD.nu 4 63 v1 rfl .plain rfl (Ar zL p5) (fun p02 Q4 k5 F5=>?_)
 obtain ⟨z8,K8⟩:=AG k5 (.one (.tl .hd) (.one .hd (.one .hd (.one .hd (.one .hd .done)))))
 have A00:=Tt G5 (Tt F5 K8)
 exact C6 (R4,Q4) _ _ ⟨rfl,rfl,rfl,rfl,rfl,rfl,rfl,rfl,rfl,rfl,rfl,trivial⟩ ⟨z8,A00⟩
 refine Ac<|Af rfl<|Aa<|Al rfl<|Bb hb0 Tryz.func3 rfl rfl ?_
 cases h
 exact M3.gv
 refine AI<|AI<|AI<|AI<|BI rfl rfl<|Aa<|Bh rfl<|Ac<|Af rfl<|Aa<|Al rfl<|Bb hb0 Tryz.func3 rfl rfl ?_
 cases h
 exact M3.gv
 refine AI<|AI<|AI<|AI<|BI rfl rfl<|Ae rfl<|AI<|AI<|AI<|AI<|BI rfl rfl<|Aa<|Bh rfl<|Ac<|Af rfl<|Aa<|Al rfl<|Bb hb0 Tryz.func3 rfl rfl ?_
 cases h
 exact M3.gv
 refine AI<|AI<|BI rfl rfl<|Ae rfl<|AI<|AI<|AI<|AI<|BI rfl rfl<|Ae rfl<|AI<|AI<|AI<|AI<|BI rfl rfl<|Aa<|Bh rfl<|Ac<|Af rfl<|Aa<|Al rfl<|Bb hb0 Tryz.func3 rfl rfl ?_
 cases h
 exact M3.gv
 refine Ac<|Af rfl<|Aa<|Al rfl<|Bb hb0 Tryz.func3 rfl rfl ?_
 cases h
 exact g2.gv
end Go.Proofs.YtichhhehkcfoaaaGreatDoor
