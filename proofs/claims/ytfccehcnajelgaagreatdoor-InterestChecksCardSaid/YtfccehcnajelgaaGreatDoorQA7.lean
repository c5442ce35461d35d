/- Functions of the program, and what they give: part 7. -/
import Derived.Test.YtfccehcnajelgaaGreatDoorQA6
namespace Go.Proofs.YtfccehcnajelgaaGreatDoor
open Go Go.RowKit
set_option maxRecDepth 4000
set_option maxHeartbeats 4000000

structure TRatio190 where
  fN:TLong188
  fD:TLong188
  deriving DecidableEq
instance:Rep TRatio190:=Rep.via (β:=TLong188 × TLong188) fun x=>(x.fN,x.fD)
theorem body156:bodyB Tryz.prog 156 = true:=by kernel_rfl
def wardmoteref02_Out_p (n:Nat) (a0:TRatio190):Option (TShare × Int):=
  (wardmoteref01_Out_p n a0.fN).bind fun b0=>(wardmoteref01_Out_p n a0.fD).bind fun c0=>(if b0.2 = 0 then (if c0.2 = 0 then some ((⟨b0.1,c0.1⟩:TShare),(0:Int)) else some ((⟨((0:UInt64),(0:UInt64),(0:UInt64),(0:UInt64),(0:UInt64),(0:UInt64),(0:UInt64),(0:UInt64)),((0:UInt64),(0:UInt64),(0:UInt64),(0:UInt64),(0:UInt64),(0:UInt64),(0:UInt64),(0:UInt64))⟩:TShare),(6:Int))) else some ((⟨((0:UInt64),(0:UInt64),(0:UInt64),(0:UInt64),(0:UInt64),(0:UInt64),(0:UInt64),(0:UInt64)),((0:UInt64),(0:UInt64),(0:UInt64),(0:UInt64),(0:UInt64),(0:UInt64),(0:UInt64),(0:UInt64))⟩:TShare),(6:Int)))
theorem wardmoteref02_Out_c (n:Nat) (L:List Nat) (w:World) (hL:∀ b ∈ L,b < w.heap.size) (a0:TRatio190) {v0_1:Value} (h0_1:Rep.R w L [v0_1] a0.fN.fD) {v0_3:Value} (h0_3:Rep.R w L [v0_3] a0.fD.fD)  {r:TShare × Int} (h:wardmoteref02_Out_p n a0 = some r) :
    Calls Tryz.prog 115 #[.agg #[.bool a0.fN.fc,v0_1,.bool a0.fD.fc,v0_3]] w (Gives w fun _ u=>u = .tuple #[.agg ((cs_TShare r.1)).toArray,vI r.2]):=by
 unfold wardmoteref02_Out_p at h
 have hS0:=Az w
 refine AC Tryz.func115 rfl rfl rfl (fun _ cs0 hb0=>?_)
 refine Ac<|Am .plain rfl (AB hS0 rfl rfl) (fun R0 B0 v0 F0=>?_)
 refine Am .plain rfl (Ay zL v0) (fun U0 C0 g0 G0=>?_)
 refine Af rfl<|Aa<|Ac<|Be 0 rfl<|Ab (Br (cs:=[.bool a0.fN.fc,v0_1]) (by kernel_rfl) rfl (mem_part (g0.memA (.tl .hd)) 0 2)) ?_
 obtain ⟨b0,z0,h⟩:=bi h
 refine Bb (.tuple #[.agg ((cs_A39 b0.1)).toArray,vI b0.2]) body156 rfl (e1 rfl) (fun w9 hw9=>wardmoteref01_Out_c n _ w9 (g0.hL0 hL hw9) a0.fN (g0.k0 h0_1 hw9) z0) rfl<|Ae rfl<|Ab (Ag rfl rfl)<|Ab (Ag rfl rfl)<|Am .plain rfl (Ay zP g0) (fun V0 D0 x0 H0=>?_)
 refine AR (cs_A39 b0.1) x0 .hd (onesB rfl) (fun W0 j0 I0=>?_)
 refine Af rfl<|Aa<|Ac<|Be 2 rfl<|Ab (Br (cs:=[.bool a0.fD.fc,v0_3]) (by kernel_rfl) rfl (mem_part (j0.memA (.tl (.tl .hd))) 2 2)) ?_
 obtain ⟨c0,A0,h⟩:=bi h
 refine Bb (.tuple #[.agg ((cs_A39 c0.1)).toArray,vI c0.2]) body156 rfl (e1 rfl) (fun w9 hw9=>wardmoteref01_Out_c n _ w9 (j0.hL0 hL hw9) a0.fD (j0.k0 h0_3 hw9) A0) rfl<|Ae rfl<|Ab (Ag rfl rfl)<|Ab (Ag rfl rfl)<|Am .plain rfl (Ay zP j0) (fun X0 E0 y0 J0=>?_)
 refine AR (cs_A39 c0.1) y0 .hd (onesB rfl) (fun Y0 d0 K0=>?_)
 refine Af rfl<|Aa<|Ai<|Ac<|Ae rfl<|Ab (FV.neq (i:=b0.2) (j:=0) rfl rfl)<|Ae rfl<|RG.ifn (s:=22) rfl h (fun t0 h=>?_) (fun t0 h=>?_)
 refine AJ (Aj rfl)<|AJ (FV.neq (i:=c0.2) (j:=0) rfl rfl)<|Bx rfl rfl<|Aa<|MX.ifn rfl h (fun u0 h=>?_) (fun u0 h=>?_)
 refine Ao<|Ac<|Ab (AI rfl (d0.memA (.tl .hd)))<|Ab (AI rfl (d0.memA .hd))<|Ab (AN (vs:=[.agg ((cs_A39 b0.1)).toArray,.agg ((cs_A39 c0.1)).toArray]) (u:=.agg ((cs_A39 b0.1 ++ cs_A39 c0.1)).toArray) (e2 rfl rfl) (fun w9=>by kernel_rfl))<|AR (cs_A39 b0.1 ++ cs_A39 c0.1) d0 (.tl (.tl .hd)) (onesB rfl) (fun Z0 p0 M0=>?_)
 refine Af rfl<|Aa<|Ak rfl<|Ap hb0 Tryz.func115 rfl (.cons (.many (cs:=(cs_A39 b0.1 ++ cs_A39 c0.1)) (by kernel_rfl) rfl (p0.memA (.tl (.tl .hd)))) (.cons (.tmp rfl) .nil)) rfl ?_
 cases h
 exact p0.gv
 refine Ac<|Ab (AN (vs:=[]) (u:=.agg zM) evs_nil (fun w9=>by kernel_rfl))<|AR zL d0 (.tl (.tl .hd)) (onesB rfl) (fun b1 q0 P0=>?_)
 refine Af rfl<|Aa<|Ak rfl<|Ap hb0 Tryz.func115 rfl (.cons (.many (cs:=zL) (by kernel_rfl) rfl (q0.memA (.tl (.tl .hd)))) (.cons (.tmp rfl) .nil)) rfl ?_
 cases h
 exact q0.gv
 refine AA<|AA<|BF rfl rfl<|Aa<|AV rfl<|Ac<|Ab (AN (vs:=[]) (u:=.agg zM) evs_nil (fun w9=>by kernel_rfl))<|AR zL d0 (.tl (.tl .hd)) (onesB rfl) (fun c1 s0 Q0=>?_)
 refine Af rfl<|Aa<|Ak rfl<|Ap hb0 Tryz.func115 rfl (.cons (.many (cs:=zL) (by kernel_rfl) rfl (s0.memA (.tl (.tl .hd)))) (.cons (.tmp rfl) .nil)) rfl ?_
 cases h
 exact s0.gv
def wardmoteref01_twice_l1 (_n:Nat) (a0:List Int) (j0:Int × Nat × (List Int) → Option ((List Int) × Int)):Int × Nat × (List Int) → Option ((List Int) × Int)
  | (g0,b0,d0)=>(if b0 < a0.length then (a0[b0]?).bind fun s0=>(chk (2 * s0)).bind fun k0=>(chk (k0 + g0)).bind fun c0=>(remI c0 4294967296).bind fun p0=>(app d0 ([p0]:List Int)).bind fun t0=>(quoI c0 4294967296).bind fun q0=>j0 (q0,b0 + 1,t0) else some (d0,g0))
def wardmoteref01_twice_p (n:Nat) (a0:List Int) (a1:Int):Option (List Int):=
  Option.bind (loopF (wardmoteref01_twice_l1 n a0) n (a1,0,([]:List Int))) (fun (c0,g0)=>(app c0 ([g0]:List Int)).bind fun b0=>(wardmoteref01_cut_p n b0).bind fun d0=>some d0)
theorem wardmoteref01_twice_c (n:Nat) (L:List Nat) (w:World) (hL:∀ b ∈ L,b < w.heap.size) (a0:List Int) {v0_0:Value} (h0_0:Rep.R w L [v0_0] a0) (a1:Int)  {r:List Int} (h:wardmoteref01_twice_p n a0 a1 = some r) :
    Calls Tryz.prog 198 #[v0_0,vI a1] w (Gives w fun w' u=>∃ v0_0:Value,u = v0_0∧Rep.R w' L [v0_0] r):=by
 unfold wardmoteref01_twice_p at h
 have hS0:=Az w
 refine AC Tryz.func198 rfl rfl rfl (fun _ cs0 hb0=>?_)
 refine Ac<|Af rfl<|Aa<|Ac<|Af rfl<|Aa<|Ai<|Ac<|Af rfl<|Aa<|Aq ?_
 have y0:=hS0.nilRow 3 (Rep.size Int)
 have Z1:=St.nilRowT hS0 3 (Rep.size Int)
 have W0:=AO (cs:=[]) (xs:=([]:List Int)) y0 L (AU _ _)
 obtain ⟨j2,s1,d1⟩:=bind_in2 h
 refine Bg (α:=Int × Nat × (List Int) × Value × (List Value)) (fun ⟨b0,c0,d0,k0,g0⟩=>[(0,v0_0),(1,vI b0),(5,k0),(6,vI ((c0:Nat):Int))]) (fun ⟨b0,c0,d0,k0,g0⟩ p0=>St w p0 [.row w.heap.size 3 (Rep.size Int) k0 d0.length g0]∧Tr w [.row w.heap.size 3 (Rep.size Int) vN (([]:List Int).length) []] p0 [.row w.heap.size 3 (Rep.size Int) k0 d0.length g0]∧Cells p0 (bl [.row w.heap.size 3 (Rep.size Int) k0 d0.length g0] ++ L) g0 d0) (fun ⟨b0,c0,d0,k0,g0⟩=>(b0,c0,d0)) (a1,0,([]:List Int),vN,[]) s1 ⟨rfl,rfl,rfl,rfl,trivial⟩ ⟨y0,AQ _ _,W0⟩ ?_
 rintro U1 ⟨b0,c0,d0,k0,g0⟩ p0 J0 ⟨v0,R0,C0⟩ h
 unfold wardmoteref01_twice_l1 at h
 try dsimp only at h
 refine Ai<|Ac<|Ae rfl<|Ae rfl ?_
 have x0:=AE h0_0 v0
 have g2:a0.length ≤ 281474976710656:=AT x0
 refine Ab (AY (xs:=a0) Tryz.underlying52 rfl x0)<|Ab (AZ (i:=c0) (j:=a0.length) rfl rfl)<|Aa<|AK rfl h (fun G0 h=>?_) (fun G0 h=>?_)
 refine Ao<|Ai<|Aq<|Ac<|Ae rfl<|Ae rfl ?_
 obtain ⟨E0,E1,h⟩:=bi h
 obtain ⟨R1,X1,b1,g1,H0,v1,j1⟩:=Bi x0 E1
 have c1:H0 = [vI E0]:=v1; subst c1
 refine Ab (Bk 1 c0 rfl b1 rfl rfl g1)<|AS rfl (j1 0 _ rfl) ?_
 obtain ⟨I1,A1,h⟩:=bi h
 refine Ab (FV.mulc (i:=2) (j:=E0) rfl rfl A1)<|Ae rfl ?_
 obtain ⟨D0,B1,h⟩:=bi h
 refine Ab (FV.addc (i:=I1) (j:=b0) rfl rfl B1)<|Af rfl<|Aa<|Ac<|Ae rfl<|Ae rfl ?_
 obtain ⟨j0,C1,h⟩:=bi h
 refine Ab (FV.remc (i:=D0) (j:=4294967296) rfl rfl C1)<|Am .plain rfl (Bd (α:=Int) (xs:=([j0]:List Int)) (vs:=[vI j0]) (ds' :=[vI j0]) rfl v0 el52 rfl (e1 rfl) (by kernel_rfl) rfl) (fun p2 V1 q0 A0=>?_)
 have V0:=AO (cs:=[vI j0]) (xs:=(([j0]:List Int):List Int)) q0 L (Ax (cs:=[vI j0]) (ds:=[]) rfl (AU _ _))
 obtain ⟨Q1,F1,h⟩:=bi h
 have k1:=Bc C0 A0
 refine RG.doesL .plain rfl (BE (α:=Int) (ys:=([j0]:List Int)) F1 q0 (fun _ _=>(.tl .hd)) el52 rfl rfl k1 (Src.row (α:=Int) q0 .hd V0)) (fun K1 q2 ⟨I0,K0,P0,X0⟩=>?_)
 refine Af rfl<|Aa<|Al<|Ae rfl ?_
 obtain ⟨J1,D1,h⟩:=bi h
 refine Ab (FV.quoc (i:=D0) (j:=4294967296) rfl rfl D1)<|Af rfl<|Aa<|Ar<|Al<|Ae rfl<|Ab (Bj (i:=c0) (j:=1) rfl rfl (by omega))<|Af rfl<|Aa ?_
 obtain ⟨M0,B0⟩:=AH K0 (.one (.tl .hd) .done)
 have p1:=Bc X0 B0
 have u1:=Tt A0 (Tt P0 B0)
 exact J0 (J1,c0 + 1,Q1,K1,I0) _ _ ⟨rfl,rfl,rfl,rfl,trivial⟩ ⟨M0,(Tt R0 u1),p1⟩ h
 refine AW rfl ?_
 have h:=d1 _ h
 try dsimp only at h
 refine Ac<|Ae rfl<|Ae rfl<|Am .plain rfl (Bd (α:=Int) (xs:=([b0]:List Int)) (vs:=[vI b0]) (ds' :=[vI b0]) rfl v0 el52 rfl (e1 rfl) (by kernel_rfl) rfl) (fun s2 W1 s0 Q0=>?_)
 have Y0:=AO (cs:=[vI b0]) (xs:=(([b0]:List Int):List Int)) s0 L (Ax (cs:=[vI b0]) (ds:=[]) rfl (AU _ _))
 obtain ⟨F0,G1,h⟩:=bi h
 have q1:=Bc C0 Q0
 refine RG.doesL .plain rfl (BE (α:=Int) (ys:=([b0]:List Int)) G1 s0 (fun _ _=>(.tl .hd)) el52 rfl rfl q1 (Src.row (α:=Int) s0 .hd Y0)) (fun M1 t2 ⟨Y1,t0,b2,Z0⟩=>?_)
 have x1:=Bq (α:=Int) t0 (.tl .hd) Z0 hL
 have u0:=BB t0 (.tl .hd)
 have c2:=BC t0 (.tl .hd)
 have y1:=BD (α:=Int) (v:=M1) (xs:=F0) u0 L x1
 obtain ⟨v2,H1,h⟩:=bi h
 refine Bf (fst:=[]) (cap:=[]) .plain body181 rfl (e1 rfl) (fun w9 hw9=>wardmoteref01_cut_c n _ w9 (u0.hL hL hw9) F0 (Au y1 hw9) H1) rfl (fun u2 P1 U0 ⟨k2,hu_,z1⟩=>?_)
 subst hu_
 obtain ⟨z0,d2⟩:=u0.agr U0
 refine Af rfl<|Aa<|Ak rfl<|AP hb0 Tryz.func198 rfl rfl ?_
 cases h
 exact ⟨z0.ag,fun w9 hw9=>⟨P1,rfl,z0.kd z1 hw9⟩⟩
def tb182_15:List (Nat × Nat × Nat):=[(0,2305843009213693952,128),(0,4611686018427387904,512),(0,9223372036854775808,128),(0,18446744073709551616,512),(12,36893488147419103232,27670116110564327424),(16,73786976294838206464,36893488147419103232),(0,147573952589676412928,1024),(64,295147905179352825856,147573952589676412928),(160,590295810358705651712,368934881474191032320),(511,1180591620717411303424,6917529027641081856),(1023,0,1770887431076116955136)]
theorem body198:bodyB Tryz.prog 198 = true:=by kernel_rfl
def wardmoteref01_parts_l1 (n:Nat) (a0:List Int) (g0:Int) (a1:List Int) (p0:(List Int) × Int × (List Int) → Option ((List Int) × (List Int))):(List Int) × Int × (List Int) → Option ((List Int) × (List Int))
  | (k0,c0,b0)=>(if 0 ≤ c0 then (idx a0 g0).bind fun x0=>(natOf c0).bind fun q0=>(remI (shrS x0 q0) 2).bind fun t0=>(wardmoteref01_twice_p n k0 t0).bind fun d0=>(wardmoteref01_order_p n d0 a1).bind fun C0=>jn (fun (z0,A0)=>(chk (c0 - 1)).bind fun u0=>p0 (z0,u0,A0)) (fun j0=>(if 0 ≤ C0 then (wardmoteref01_less_p n d0 a1).bind fun D0=>(idx b0 g0).bind fun y0=>(natOf c0).bind fun s0=>(chk (y0 + (shlS 1 s0))).bind fun v0=>(put b0 ((g0.toNat:Nat):Int) v0).bind fun B0=>j0 (D0,B0) else j0 (d0,b0))) else some (k0,b0))
def wardmoteref01_parts_l2 (n:Nat) (a0:List Int) (a1:List Int) (g0:(List Int) × Int × (List Int) → Option ((List Int) × (List Int))):(List Int) × Int × (List Int) → Option ((List Int) × (List Int))
  | (c0,b0,d0)=>(if 0 ≤ b0 then Option.bind (loopF (wardmoteref01_parts_l1 n a0 b0 a1) n (c0,31,d0)) (fun (k0,p0)=>(chk (b0 - 1)).bind fun j0=>g0 (k0,j0,p0)) else some (d0,c0))
def wardmoteref01_parts_p (n:Nat) (a0:List Int) (a1:List Int):Option ((List Int) × (List Int)):=
  (if ((a0.length:Nat):Int) ≤ (((a1.length:Nat):Int) - 1) then (app ([]:List Int) a0).bind fun g0=>some (([]:List Int),g0) else (mk (((a0.length:Nat):Int) - (((a1.length:Nat):Int) - 1)) (0:Int)).bind fun b0=>(cut a0 (((a0.length:Nat):Int) - (((a1.length:Nat):Int) - 1)) (a0.length:Int)).bind fun j0=>(app ([]:List Int) j0).bind fun k0=>Option.bind (loopF (wardmoteref01_parts_l2 n a0 a1) n (k0,((b0.length:Nat):Int) - 1,b0)) (fun (d0,c0)=>(wardmoteref01_cut_p n d0).bind fun p0=>some (p0,c0)))
theorem wardmoteref01_parts_c (n:Nat) (L:List Nat) (w:World) (hL:∀ b ∈ L,b < w.heap.size) (a0:List Int) {v0_0:Value} (h0_0:Rep.R w L [v0_0] a0) (a1:List Int) {v1_0:Value} (h1_0:Rep.R w L [v1_0] a1)  {r:(List Int) × (List Int)} (h:wardmoteref01_parts_p n a0 a1 = some r) :
    Calls Tryz.prog 182 #[v0_0,v1_0] w (Gives w fun w' u=>∃ v0_0 v1_0:Value,u = .tuple #[v0_0,v1_0]∧Rep.R w' L [v0_0] r.1∧Rep.R w' L [v1_0] r.2):=by
 unfold wardmoteref01_parts_p at h
 have hS0:=Az w
 refine AC Tryz.func182 rfl rfl rfl (fun _ cs0 hb0=>?_)
 refine Ac<|Af rfl<|Af rfl<|Aa<|Ac<|Ae rfl ?_
 have hl1:a1.length ≤ 281474976710656:=AT h1_0
 refine Ab (AY (xs:=a1) Tryz.underlying52 rfl h1_0)<|Ab (FV.subI (i:=((a1.length:Nat):Int)) (j:=1) rfl rfl (by omega))<|Af rfl<|Aa<|Ai<|Ac<|Ae rfl ?_
 have hl2:a0.length ≤ 281474976710656:=AT h0_0
 refine Ab (AY (xs:=a0) Tryz.underlying52 rfl h0_0)<|Ae rfl<|Ab (FV.leq (i:=((a0.length:Nat):Int)) (j:=((a1.length:Nat):Int) - 1) rfl rfl)<|Aa<|AK rfl h (fun c3 h=>?_) (fun c3 h=>?_)
 refine Ac<|Am .plain rfl (Bd (α:=Int) (xs:=([]:List Int)) (vs:=[]) (ds' :=[]) rfl hS0 el52 rfl evs_nil (by kernel_rfl) rfl) (fun Z4 z4 R0 H4=>?_)
 have t2:=AO (cs:=[]) (xs:=(([]:List Int):List Int)) R0 L (AU _ _)
 refine Ae rfl ?_
 obtain ⟨k4,I3,h⟩:=bi h
 have X2:=AE h0_0 R0
 refine RG.doesL .plain rfl (BE (α:=Int) (ys:=a0) I3 R0 (fun _ _=>.hd) el52 rfl rfl t2 (Src.rep X2)) (fun D1 g5 ⟨F4,P0,I4,x2⟩=>?_)
 refine Af rfl<|Af rfl<|Aa<|Ak rfl ?_
 have P4:=Rep.nilAt (α:=Int) P0 L
 have t3:=Bq (α:=Int) P0 .hd x2 hL
 have G0:=BB P0 .hd
 have J4:=BC P0 .hd
 have u3:=BD (α:=Int) (v:=D1) (xs:=k4) G0 L t3
 refine Ap hb0 Tryz.func182 rfl (.cons (.tmp rfl) (.cons (.tmp rfl) .nil)) rfl ?_
 cases h
 have v3:=Rep.nilAt (α:=Int) G0 L
 exact ⟨G0.ag,fun w9 hw9=>⟨vN,D1,rfl,G0.kd v3 hw9,G0.kd u3 hw9⟩⟩
 refine Ao<|Ac<|Ae rfl<|Ab (AY (xs:=a0) Tryz.underlying52 rfl h0_0)<|Ae rfl<|Ab (FV.subI (i:=((a0.length:Nat):Int)) (j:=((a1.length:Nat):Int) - 1) rfl rfl (by omega)) ?_
 obtain ⟨F0,C1,h⟩:=bi h
 refine Am .plain rfl (Does.mk (α:=Int) C1 hS0 el52 rfl) (fun j5 b0 k1 K4=>?_)
 have y2:=AO (cs:=(List.replicate (((a0.length:Nat):Int) - (((a1.length:Nat):Int) - 1)).toNat [vI 0]).flatten) (xs:=F0) k1 L (Cells.mk C1 rfl)
 refine Af rfl<|Aa<|Ac<|Am .plain rfl (Bd (α:=Int) (xs:=([]:List Int)) (vs:=[]) (ds' :=[]) rfl k1 el52 rfl evs_nil (by kernel_rfl) rfl) (fun k5 A4 X0 g2=>?_)
 have z2:=AO (cs:=[]) (xs:=(([]:List Int):List Int)) X0 L (AU _ _)
 refine Ae rfl<|Ae rfl ?_
 have z1:=AE h0_0 X0
 refine Ab (AY (xs:=a0) Tryz.underlying52 rfl z1)<|Ae rfl<|Ab (FV.subI (i:=((a0.length:Nat):Int)) (j:=((a1.length:Nat):Int) - 1) rfl rfl (by omega)) ?_
 obtain ⟨q4,K3,h⟩:=bi h
 refine RG.valE .plain rfl (FV.cutL (α:=Int) K3 (by kernel_rfl) rfl z1 ⟨_,rfl⟩ rfl) (fun Y4 x3=>?_)
 obtain ⟨G1,M3,h⟩:=bi h
 refine RG.doesL .plain rfl (BE (α:=Int) (ys:=q4) M3 X0 (fun _ _=>.hd) el52 rfl rfl z2 (Src.rep x3)) (fun E1 j4 ⟨G4,H0,j2,A2⟩=>?_)
 refine Af rfl<|Aa<|Ai<|Ac<|Ae rfl ?_
 have M4:F0.length ≤ 4294967296:=St.rowLe (α:=Int) H0 (.tl .hd)
 obtain ⟨u4,E4,E2⟩:=St.rowV (α:=Int) H0 (.tl .hd)
 refine Ab (FV.lenV Tryz.underlying52 rfl E2)<|Ab (FV.subI (i:=((F0.length:Nat):Int)) (j:=1) rfl rfl (by omega))<|Af rfl<|Aa<|Aq ?_
 have y3:=Bq (α:=Int) H0 .hd A2 hL
 have p1:=BB H0 .hd
 have k2:=BC H0 .hd
 have z3:=BD (α:=Int) (v:=E1) (xs:=G1) p1 L y3
 have b3:=Tt g2 (Tt j2 k2)
 have M2:=Bc y2 b3
 obtain ⟨Q4,Y2,F2⟩:=bind_in2 h
 refine Bg (α:=(List Int) × Int × (List Int) × Value × (List Value)) (fun ⟨D0,g0,d0,y0,q0⟩=>[(0,v0_0),(1,v1_0),(7,(.slice (some ⟨b0,0,none⟩) (((a0.length:Nat):Int) - (((a1.length:Nat):Int) - 1)).toNat (((a0.length:Nat):Int) - (((a1.length:Nat):Int) - 1)).toNat)),(8,y0),(9,vI g0)]) (fun ⟨D0,g0,d0,y0,q0⟩ C0=>St w C0 [.row w.heap.size 3 (Rep.size Int) (.slice (some ⟨b0,0,none⟩) (((a0.length:Nat):Int) - (((a1.length:Nat):Int) - 1)).toNat (((a0.length:Nat):Int) - (((a1.length:Nat):Int) - 1)).toNat) d0.length q0]∧Tr j4 [.row w.heap.size 3 (Rep.size Int) (.slice (some ⟨b0,0,none⟩) (((a0.length:Nat):Int) - (((a1.length:Nat):Int) - 1)).toNat (((a0.length:Nat):Int) - (((a1.length:Nat):Int) - 1)).toNat) F0.length ((List.replicate (((a0.length:Nat):Int) - (((a1.length:Nat):Int) - 1)).toNat [vI 0]).flatten)] C0 [.row w.heap.size 3 (Rep.size Int) (.slice (some ⟨b0,0,none⟩) (((a0.length:Nat):Int) - (((a1.length:Nat):Int) - 1)).toNat (((a0.length:Nat):Int) - (((a1.length:Nat):Int) - 1)).toNat) d0.length q0]∧Rep.R C0 (bl [.row w.heap.size 3 (Rep.size Int) (.slice (some ⟨b0,0,none⟩) (((a0.length:Nat):Int) - (((a1.length:Nat):Int) - 1)).toNat (((a0.length:Nat):Int) - (((a1.length:Nat):Int) - 1)).toNat) d0.length q0] ++ L) [y0] D0∧Cells C0 (bl [.row w.heap.size 3 (Rep.size Int) (.slice (some ⟨b0,0,none⟩) (((a0.length:Nat):Int) - (((a1.length:Nat):Int) - 1)).toNat (((a0.length:Nat):Int) - (((a1.length:Nat):Int) - 1)).toNat) d0.length q0] ++ L) q0 d0) (fun ⟨D0,g0,d0,y0,q0⟩=>(D0,g0,d0)) (G1,((F0.length:Nat):Int) - 1,F0,E1,(List.replicate (((a0.length:Nat):Int) - (((a1.length:Nat):Int) - 1)).toNat [vI 0]).flatten) Y2 ⟨rfl,rfl,rfl,rfl,rfl,trivial⟩ ⟨p1,AQ _ _,z3,M2⟩ ?_
 rintro v4 ⟨D0,g0,d0,y0,q0⟩ C0 V1 ⟨K0,Z1,A1,u1⟩ h
 unfold wardmoteref01_parts_l2 at h
 try dsimp only at h
 refine Ai<|Ac<|Ae rfl<|Ab (FV.geq (i:=g0) (j:=0) rfl rfl)<|Aa<|AK rfl h (fun K1 h=>?_) (fun K1 h=>?_)
 refine Ao<|Ai<|Aq<|Ac<|Af rfl<|Aa<|Aq ?_
 obtain ⟨R4,Z2,G2⟩:=bind_in2 h
 refine Bg (α:=(List Int) × Int × (List Int) × Value × (List Value)) (fun ⟨z0,u0,j0,A0,p0⟩=>[(0,v0_0),(1,v1_0),(7,(.slice (some ⟨b0,0,none⟩) (((a0.length:Nat):Int) - (((a1.length:Nat):Int) - 1)).toNat (((a0.length:Nat):Int) - (((a1.length:Nat):Int) - 1)).toNat)),(8,A0),(9,vI g0),(10,vI u0)]) (fun ⟨z0,u0,j0,A0,p0⟩ I0=>St w I0 [.row w.heap.size 3 (Rep.size Int) (.slice (some ⟨b0,0,none⟩) (((a0.length:Nat):Int) - (((a1.length:Nat):Int) - 1)).toNat (((a0.length:Nat):Int) - (((a1.length:Nat):Int) - 1)).toNat) j0.length p0]∧Tr C0 [.row w.heap.size 3 (Rep.size Int) (.slice (some ⟨b0,0,none⟩) (((a0.length:Nat):Int) - (((a1.length:Nat):Int) - 1)).toNat (((a0.length:Nat):Int) - (((a1.length:Nat):Int) - 1)).toNat) d0.length q0] I0 [.row w.heap.size 3 (Rep.size Int) (.slice (some ⟨b0,0,none⟩) (((a0.length:Nat):Int) - (((a1.length:Nat):Int) - 1)).toNat (((a0.length:Nat):Int) - (((a1.length:Nat):Int) - 1)).toNat) j0.length p0]∧Rep.R I0 (bl [.row w.heap.size 3 (Rep.size Int) (.slice (some ⟨b0,0,none⟩) (((a0.length:Nat):Int) - (((a1.length:Nat):Int) - 1)).toNat (((a0.length:Nat):Int) - (((a1.length:Nat):Int) - 1)).toNat) j0.length p0] ++ L) [A0] z0∧Cells I0 (bl [.row w.heap.size 3 (Rep.size Int) (.slice (some ⟨b0,0,none⟩) (((a0.length:Nat):Int) - (((a1.length:Nat):Int) - 1)).toNat (((a0.length:Nat):Int) - (((a1.length:Nat):Int) - 1)).toNat) j0.length p0] ++ L) p0 j0) (fun ⟨z0,u0,j0,A0,p0⟩=>(z0,u0,j0)) (D0,31,d0,y0,q0) Z2 ⟨rfl,rfl,rfl,rfl,rfl,rfl,trivial⟩ ⟨K0,AQ _ _,A1,u1⟩ ?_
 rintro x4 ⟨z0,u0,j0,A0,p0⟩ I0 W1 ⟨M0,q1,B1,Z0⟩ h
 unfold wardmoteref01_parts_l1 at h
 try dsimp only at h
 refine Ai<|Ac<|Ae rfl<|Ab (FV.geq (i:=u0) (j:=0) rfl rfl)<|Aa<|AK rfl h (fun M1 h=>?_) (fun M1 h=>?_)
 refine Ao<|Ai<|Aq<|Ac<|Ae rfl<|Ae rfl<|Ae rfl ?_
 obtain ⟨d1,E3,h⟩:=bi h
 obtain ⟨H2,F3⟩:=idx_in E3
 have Q2:=AE h0_0 M0
 obtain ⟨t4,B4,B2,I2,Q1,d3,P2⟩:=Bi Q2 F3
 have C2:Q1 = [vI d1]:=d3; subst C2
 refine Ab (Bk 1 (g0.toNat) rfl B2 rfl H2 I2)<|AS rfl (P2 0 _ rfl)<|Ae rfl ?_
 obtain ⟨V3,J2,h⟩:=bi h
 refine Ab (FV.shrSI (i:=d1) (q:=u0) rfl rfl J2) ?_
 obtain ⟨X3,A3,h⟩:=bi h
 refine Ab (FV.remc (i:=shrS d1 V3) (j:=2) rfl rfl A3) ?_
 obtain ⟨g1,P3,h⟩:=bi h
 refine Bf (fst:=[]) (cap:=[]) .plain body198 rfl (e2 rfl rfl) (fun w9 hw9=>wardmoteref01_twice_c n _ w9 (M0.hL hL hw9) z0 (Au B1 hw9) X3 P3) rfl (fun g4 b4 p2 ⟨V4,hu_,c1⟩=>?_)
 subst hu_
 obtain ⟨x0,Y0⟩:=M0.agr p2
 refine Af rfl<|Aa<|Ac<|Ae rfl<|Ae rfl ?_
 obtain ⟨H1,Q3,h⟩:=bi h
 refine Bb (vI H1) body183 rfl (e2 rfl rfl) (fun w9 hw9=>wardmoteref01_order_c n _ w9 (x0.hL0 hL hw9) g1 (x0.kd c1 hw9) a1 (x0.k0 h1_0 hw9) Q3) rfl<|Ab (FV.geq (i:=H1) (j:=0) rfl rfl)<|Aa<|MX.join (α:=(List Int) × (List Int) × Value × (List Value)) (fun ⟨E0,t0,B0,v0⟩=>[(0,v0_0),(1,v1_0),(7,(.slice (some ⟨b0,0,none⟩) (((a0.length:Nat):Int) - (((a1.length:Nat):Int) - 1)).toNat (((a0.length:Nat):Int) - (((a1.length:Nat):Int) - 1)).toNat)),(8,B0),(9,vI g0),(10,vI u0)]) (fun ⟨E0,t0,B0,v0⟩ J0=>St w J0 [.row w.heap.size 3 (Rep.size Int) (.slice (some ⟨b0,0,none⟩) (((a0.length:Nat):Int) - (((a1.length:Nat):Int) - 1)).toNat (((a0.length:Nat):Int) - (((a1.length:Nat):Int) - 1)).toNat) t0.length v0]∧Tr g4 [.row w.heap.size 3 (Rep.size Int) (.slice (some ⟨b0,0,none⟩) (((a0.length:Nat):Int) - (((a1.length:Nat):Int) - 1)).toNat (((a0.length:Nat):Int) - (((a1.length:Nat):Int) - 1)).toNat) j0.length p0] J0 [.row w.heap.size 3 (Rep.size Int) (.slice (some ⟨b0,0,none⟩) (((a0.length:Nat):Int) - (((a1.length:Nat):Int) - 1)).toNat (((a0.length:Nat):Int) - (((a1.length:Nat):Int) - 1)).toNat) t0.length v0]∧Rep.R J0 (bl [.row w.heap.size 3 (Rep.size Int) (.slice (some ⟨b0,0,none⟩) (((a0.length:Nat):Int) - (((a1.length:Nat):Int) - 1)).toNat (((a0.length:Nat):Int) - (((a1.length:Nat):Int) - 1)).toNat) t0.length v0] ++ L) [B0] E0∧Cells J0 (bl [.row w.heap.size 3 (Rep.size Int) (.slice (some ⟨b0,0,none⟩) (((a0.length:Nat):Int) - (((a1.length:Nat):Int) - 1)).toNat (((a0.length:Nat):Int) - (((a1.length:Nat):Int) - 1)).toNat) t0.length v0] ++ L) v0 t0) (fun ⟨E0,t0,B0,v0⟩=>(E0,t0)) h ?_ ?_
 rintro ⟨E0,t0,B0,v0⟩ J0 ⟨X1,b2,g3,u2⟩ h
 try dsimp only at h
 refine Ar<|Al<|Ae rfl ?_
 obtain ⟨Y3,B3,h⟩:=bi h
 refine Ab (FV.subc (i:=u0) (j:=1) rfl rfl B3)<|Af rfl<|Aa ?_
 exact W1 (E0,Y3,t0,B0,v0) _ _ ⟨rfl,rfl,rfl,rfl,rfl,rfl,trivial⟩ ⟨X1,(Tt q1 (Tt Y0 b2)),g3,u2⟩ h
 intro y4 j1 h
 try dsimp only at h
 refine AK rfl h (fun P1 h=>?_) (fun P1 h=>?_)
 refine Ac<|Ae rfl<|Ae rfl ?_
 obtain ⟨s4,R3,h⟩:=bi h
 refine Bf (fst:=[]) (cap:=[]) .plain body180 rfl (e2 rfl rfl) (fun w9 hw9=>wardmoteref01_less_c n _ w9 (x0.hL hL hw9) g1 (Au c1 hw9) a1 (x0.km h1_0 hw9) R3) rfl (fun b5 c4 q2 ⟨W4,hu_,j3⟩=>?_)
 subst hu_
 obtain ⟨U0,s1⟩:=x0.agr q2
 refine Af rfl<|Aa<|dt 10 tb182_15 (fun c0 s0=>?_)
 refine Ah 0 1 c0 rfl s0 (fun _=>Aj rfl) rfl<|Ah 1 3 c0 rfl s0 (fun _=>Aj rfl) rfl<|Ah 2 7 c0 rfl s0 (fun _=>Aj rfl) rfl<|Ah 3 15 c0 rfl s0 (fun _=>Aj rfl) rfl ?_
 obtain ⟨F1,G3,h⟩:=bi h
 obtain ⟨x1,H3⟩:=idx_in G3
 have y1:=Bc Z0 (Tt Y0 s1)
 obtain ⟨I1,C4,Q0,b1,R1,k3,R2⟩:=St.nth (α:=Int) U0 .hd y1 H3
 obtain ⟨J1,D4,v1⟩:=St.nthOwn (α:=Int) U0 .hd b1
 obtain rfl:I1 = ⟨J1,0,none⟩:=by rw [v1] at Q0; cases Q0; rfl
 have D2:R1 = [vI F1]:=k3; subst D2
 refine Ah 4 31 c0 rfl s0 (fun _=>Bk 1 (g0.toNat) rfl Q0 rfl x1 b1) rfl<|AF 5 63 1792 c0 rfl s0 (AG rfl (R2 0 _ rfl)) rfl<|Ah 6 127 c0 rfl s0 (fun _=>Aj rfl) rfl ?_
 obtain ⟨W3,K2,h⟩:=bi h
 refine Ah 7 255 c0 rfl s0 (fun _=>FV.shlSI (i:=1) (q:=u0) rfl rfl K2) rfl ?_
 obtain ⟨U4,C3,h⟩:=bi h
 refine Ah 8 511 c0 rfl s0 (fun _=>FV.addc (i:=F1) (j:=shlS 1 W3) rfl rfl C3) rfl<|Ah 9 1023 c0 rfl s0 (fun _=>Bk 1 (g0.toNat) rfl Q0 rfl x1 b1) rfl ?_
 obtain ⟨p4,J3,h⟩:=bi h
 refine RD.one (i:=10) (rk c0) (RO.acts (m' :=2047) (sk c0) rfl rfl .plain (Acts.set (α:=Int) (i:=g0.toNat) J3 U0 v1 (fun _=>.hd) y1 rfl rfl rfl rfl rfl (by kernel_rfl)) (fun c5 ⟨U1,Y1,t1,v2⟩=>?_))
 refine AM (dk c0) ?_
 have U2:=Av j3 t1
 exact j1 (s4,p4,c4,U1) _ _ ⟨rfl,rfl,rfl,rfl,rfl,rfl,trivial⟩ ⟨Y1,(Tt s1 t1),U2,v2⟩ h
 refine Ao ?_
 have V2:=Bc Z0 Y0
 exact j1 (g1,j0,b4,p0) _ _ ⟨rfl,rfl,rfl,rfl,rfl,rfl,trivial⟩ ⟨x0,AQ _ _,c1,V2⟩ h
 refine AW rfl ?_
 have h:=G2 _ h
 try dsimp only at h
 refine Ar<|Al<|Ae rfl ?_
 obtain ⟨Z3,D3,h⟩:=bi h
 refine Ab (FV.subc (i:=g0) (j:=1) rfl rfl D3)<|Af rfl<|Aa ?_
 exact V1 (z0,Z3,j0,A0,p0) _ _ ⟨rfl,rfl,rfl,rfl,rfl,trivial⟩ ⟨M0,(Tt Z1 q1),B1,Z0⟩ h
 refine AW rfl ?_
 have h:=F2 _ h
 try dsimp only at h
 refine Ac<|Ae rfl ?_
 have p3:=Bq (α:=Int) K0 .hd u1 hL
 have V0:=BB K0 .hd
 have c2:=BC K0 .hd
 have q3:=BD (α:=Int) (v:=(.slice (some ⟨b0,0,none⟩) (((a0.length:Nat):Int) - (((a1.length:Nat):Int) - 1)).toNat (((a0.length:Nat):Int) - (((a1.length:Nat):Int) - 1)).toNat)) (xs:=d0) V0 L p3
 obtain ⟨p5,U3,h⟩:=bi h
 refine Bf (fst:=[]) (cap:=[]) .plain body181 rfl (e1 rfl) (fun w9 hw9=>wardmoteref01_cut_c n _ w9 (V0.hL hL hw9) d0 (Au q3 hw9) U3) rfl (fun d5 d4 s2 ⟨X4,hu_,s3⟩=>?_)
 subst hu_
 obtain ⟨W0,d2⟩:=V0.agr s2
 refine Ae rfl<|Af rfl<|Af rfl<|Aa<|Ak rfl<|Ap hb0 Tryz.func182 rfl (.cons (.tmp rfl) (.cons (.tmp rfl) .nil)) rfl ?_
 cases h
 have W2:=Av A1 (Tt c2 d2)
 exact ⟨W0.ag,fun w9 hw9=>⟨d4,y0,rfl,W0.kd s3 hw9,W0.kd W2 hw9⟩⟩
def tb155_1:List (Nat × Nat × Nat):=[(0,512,4),(1,1024,512),(0,2048,8),(4,4096,2048),(3,32,1024),(31,64,4096)]
theorem body182:bodyB Tryz.prog 182 = true:=by kernel_rfl
def wardmoteref01_Divisor_l1 (n:Nat) (d0:(List Int) × (List Int) → Option (List Int)):(List Int) × (List Int) → Option (List Int)
  | (c0,b0)=>(if 0 < b0.length then (wardmoteref01_parts_p n c0 b0).bind fun g0=>d0 (b0,g0.2) else some c0)
def wardmoteref01_Divisor_p (n:Nat) (a0:TLong188) (a1:TLong188):Option TLong188:=
  Option.bind (loopF (wardmoteref01_Divisor_l1 n) n (a0.fD,a1.fD)) (fun b0=>some (⟨false,b0⟩:TLong188))
theorem wardmoteref01_Divisor_c (n:Nat) (L:List Nat) (w:World) (hL:∀ b ∈ L,b < w.heap.size) (a0:TLong188) {v0_1:Value} (h0_1:Rep.R w L [v0_1] a0.fD) (a1:TLong188) {v1_1:Value} (h1_1:Rep.R w L [v1_1] a1.fD)  {r:TLong188} (h:wardmoteref01_Divisor_p n a0 a1 = some r) :
    Calls Tryz.prog 155 #[.agg #[.bool a0.fc,v0_1],.agg #[.bool a1.fc,v1_1]] w (Gives w fun w' u=>∃ v0_1:Value,u = .agg #[.bool r.fc,v0_1]∧Rep.R w' L [v0_1] r.fD):=by
 unfold wardmoteref01_Divisor_p at h
 have hS0:=Az w
 refine AC Tryz.func155 rfl rfl rfl (fun _ cs0 hb0=>?_)
 refine Ac<|Am .plain rfl (AB hS0 rfl rfl) (fun y1 c1 C0 j1=>?_)
 refine Am .plain rfl (AB C0 rfl rfl) (fun z1 d1 D0 k1=>?_)
 refine Am .plain rfl (Ay [.bool false,vN] D0) (fun X0 g0 u0 p1=>?_)
 refine Aa<|Ai<|dt 6 tb155_1 (fun d0 j0=>?_)
 refine Ah 0 1 d0 rfl j0 (fun _=>Bl 1 rfl) rfl<|AF 1 3 48 d0 rfl j0 (AG rfl ((u0.memA (.tl (.tl .hd))) 1 _ rfl)) rfl<|Ah 2 7 d0 rfl j0 (fun _=>Bl 1 rfl) rfl<|AF 3 15 32 d0 rfl j0 (AG rfl ((u0.memA (.tl .hd)) 1 _ rfl)) rfl<|Ah 4 31 d0 rfl j0 (fun _=>Bh rfl) rfl<|Ah 5 63 d0 rfl j0 (fun _=>Bh rfl) rfl<|AM (dk d0)<|Ai<|Aq ?_
 obtain ⟨v0,q1⟩:=AH u0 (.one .hd .done)
 have J0:=AE h0_1 v0
 have K0:=AE h1_1 v0
 obtain ⟨u1,Q0,I0⟩:=bind_in2 h
 refine Bg (α:=(List Int) × (List Int) × Value × Value) (fun ⟨p0,c0,b0,k0⟩=>[(4,vP g0),(5,b0),(6,k0)]) (fun ⟨p0,c0,b0,k0⟩ q0=>St w q0 [.cells g0 [.bool false,vN] 189]∧Tr X0 [.cells g0 [.bool false,vN] 189] q0 [.cells g0 [.bool false,vN] 189]∧Rep.R q0 (bl [.cells g0 [.bool false,vN] 189] ++ L) [b0] p0∧Rep.R q0 (bl [.cells g0 [.bool false,vN] 189] ++ L) [k0] c0) (fun ⟨p0,c0,b0,k0⟩=>(p0,c0)) (a0.fD,a1.fD,v0_1,v1_1) Q0 ⟨rfl,rfl,rfl,trivial⟩ ⟨v0,AQ _ _,J0,K0⟩ ?_
 rintro b1 ⟨p0,c0,b0,k0⟩ q0 B0 ⟨x0,F0,s0,t0⟩ h
 unfold wardmoteref01_Divisor_l1 at h
 try dsimp only at h
 refine Ai<|Ac<|Ae rfl ?_
 have s1:c0.length ≤ 281474976710656:=AT t0
 refine Ab (AY (xs:=c0) Tryz.underlying52 rfl t0)<|Ab (FV.gtrN (i:=c0.length) (j:=0) rfl rfl)<|Aa<|AK rfl h (fun A0 h=>?_) (fun A0 h=>?_)
 refine Ao<|Aq<|Ac<|Ae rfl<|Ae rfl ?_
 obtain ⟨Y0,V0,h⟩:=bi h
 refine Bf (fst:=[]) (cap:=[]) .plain body182 rfl (e2 rfl rfl) (fun w9 hw9=>wardmoteref01_parts_c n _ w9 (x0.hL hL hw9) p0 (Au s0 hw9) c0 (Au t0 hw9) V0) rfl (fun A1 x1 H0 ⟨v1,W0,hu_,t1,R0⟩=>?_)
 subst hu_
 obtain ⟨E0,z0⟩:=x0.agr H0
 refine Ae rfl<|Ab (Ag rfl rfl)<|Ab (Ag rfl rfl)<|Af rfl<|Af rfl<|Aa<|Al<|Ae rfl<|Ae rfl<|Af rfl<|Af rfl<|Aa<|Ar ?_
 have M0:=Av t0 z0
 exact B0 (c0,Y0.2,k0,W0) _ _ ⟨rfl,rfl,rfl,trivial⟩ ⟨E0,(Tt F0 z0),M0,R0⟩ h
 refine AW rfl ?_
 have h:=I0 _ h
 try dsimp only at h
 refine Ac<|Ae rfl ?_
 obtain ⟨Z0,g1,U0,_⟩:=Rep.sl s0
 refine Ab (AN (vs:=[b0]) (u:=.agg #[.bool false,b0]) (e1 rfl) (fun w9=>by rw [U0]; try kernel_rfl))<|AR [.bool false,b0] x0 .hd (o2 rfl (AX s0)) (fun B1 y0 G0=>?_)
 refine Aa<|Ak rfl<|Ap hb0 Tryz.func155 rfl (.cons (.many (cs:=[.bool false,b0]) (by kernel_rfl) rfl (y0.memA .hd)) .nil) rfl ?_
 cases h
 have P0:=Av s0 G0
 exact ⟨y0.ag,fun w9 hw9=>⟨b0,rfl,y0.kd P0 hw9⟩⟩
def wardmoteref01_made_p (n:Nat) (a0:Bool) (a1:List Int):Option TLong188:=
  (wardmoteref01_cut_p n a1).bind fun b0=>(if a0 = true then some (⟨(decide (0 < b0.length)),b0⟩:TLong188) else some (⟨false,b0⟩:TLong188))
theorem wardmoteref01_made_c (n:Nat) (L:List Nat) (w:World) (hL:∀ b ∈ L,b < w.heap.size) (a0:Bool) (a1:List Int) {v1_0:Value} (h1_0:Rep.R w L [v1_0] a1)  {r:TLong188} (h:wardmoteref01_made_p n a0 a1 = some r) :
    Calls Tryz.prog 179 #[.bool a0,v1_0] w (Gives w fun w' u=>∃ v0_1:Value,u = .agg #[.bool r.fc,v0_1]∧Rep.R w' L [v0_1] r.fD):=by
 unfold wardmoteref01_made_p at h
 have hS0:=Az w
 refine AC Tryz.func179 rfl rfl rfl (fun _ cs0 hb0=>?_)
 refine Ac<|Am .plain rfl (Ay [.bool false,vN] hS0) (fun K0 D0 g0 G0=>?_)
 refine Aa<|Ac<|Ae rfl ?_
 obtain ⟨d0,A0,h⟩:=bi h
 refine Bf (fst:=[]) (cap:=[]) .plain body181 rfl (e1 rfl) (fun w9 hw9=>wardmoteref01_cut_c n _ w9 (g0.hL hL hw9) a1 (g0.km h1_0 hw9) A0) rfl (fun M0 b0 u0 ⟨J0,hu_,c0⟩=>?_)
 subst hu_
 obtain ⟨p0,H0⟩:=g0.agr u0
 refine Af rfl<|Aa<|Ac<|Ae rfl<|Ae rfl<|RG.ifb (s:=8) rfl h (fun q0 h=>?_) (fun q0 h=>?_)
 refine AJ (Aj rfl) ?_
 have I0:d0.length ≤ 281474976710656:=AT c0
 refine AJ (AY (xs:=d0) Tryz.underlying52 rfl c0)<|AJ (FV.gtrN (i:=d0.length) (j:=0) rfl rfl)<|BF rfl rfl<|Ae rfl ?_
 obtain ⟨B0,E0,y0,_⟩:=Rep.sl c0
 refine Ab (AN (vs:=[.bool (decide (0 < d0.length)),b0]) (u:=.agg #[.bool (decide (0 < d0.length)),b0]) (e2 rfl rfl) (fun w9=>by rw [y0]; try kernel_rfl))<|AR [.bool (decide (0 < d0.length)),b0] p0 .hd (o2 rfl (AX c0)) (fun P0 j0 s0=>?_)
 refine Aa<|Ak rfl<|Ap hb0 Tryz.func179 rfl (.cons (.many (cs:=[.bool (decide (0 < d0.length)),b0]) (by kernel_rfl) rfl (j0.memA .hd)) .nil) rfl ?_
 cases h
 have v0:=Av c0 s0
 exact ⟨j0.ag,fun w9 hw9=>⟨b0,rfl,j0.kd v0 hw9⟩⟩
 refine AA<|AA<|AA<|Bx rfl rfl<|Ae rfl ?_
 obtain ⟨C0,F0,z0,_⟩:=Rep.sl c0
 refine Ab (AN (vs:=[.bool false,b0]) (u:=.agg #[.bool false,b0]) (e2 rfl rfl) (fun w9=>by rw [z0]; try kernel_rfl))<|AR [.bool false,b0] p0 .hd (o2 rfl (AX c0)) (fun Q0 k0 t0=>?_)
 refine Aa<|Ak rfl<|Ap hb0 Tryz.func179 rfl (.cons (.many (cs:=[.bool false,b0]) (by kernel_rfl) rfl (k0.memA .hd)) .nil) rfl ?_
 cases h
 have x0:=Av c0 t0
 exact ⟨k0.ag,fun w9 hw9=>⟨b0,rfl,k0.kd x0 hw9⟩⟩
theorem body179:bodyB Tryz.prog 179 = true:=by kernel_rfl
def wardmoteref01_Turn_p (n:Nat) (a0:TLong188):Option TLong188:=
  (wardmoteref01_made_p n (!a0.fc) a0.fD).bind fun b0=>some b0
theorem wardmoteref01_Turn_c (n:Nat) (L:List Nat) (w:World) (hL:∀ b ∈ L,b < w.heap.size) (a0:TLong188) {v0_1:Value} (h0_1:Rep.R w L [v0_1] a0.fD)  {r:TLong188} (h:wardmoteref01_Turn_p n a0 = some r) :
    Calls Tryz.prog 184 #[.agg #[.bool a0.fc,v0_1]] w (Gives w fun w' u=>∃ v0_1:Value,u = .agg #[.bool r.fc,v0_1]∧Rep.R w' L [v0_1] r.fD):=by
 unfold wardmoteref01_Turn_p at h
 have hS0:=Az w
 refine AC Tryz.func184 rfl rfl rfl (fun _ cs0 hb0=>?_)
 refine Ac<|Am .plain rfl (AB hS0 rfl rfl) (fun C0 v0 k0 y0=>?_)
 refine Am .plain rfl (Ay [.bool false,vN] k0) (fun D0 x0 b0 z0=>?_)
 refine Aa<|Ac<|Be 0 rfl<|AS rfl ((b0.memA (.tl .hd)) 0 _ rfl)<|Ab (By rfl)<|Be 1 rfl<|AS rfl ((b0.memA (.tl .hd)) 1 _ rfl) ?_
 obtain ⟨j0,u0,h⟩:=bi h
 refine Bf (fst:=[]) (cap:=[]) .plain body179 rfl (e2 rfl rfl) (fun w9 hw9=>wardmoteref01_made_c n _ w9 (b0.hL hL hw9) (!a0.fc) a0.fD (b0.km h0_1 hw9) u0) rfl (fun E0 B0 s0 ⟨d0,hu_,g0⟩=>?_)
 subst hu_
 obtain ⟨p0,A0⟩:=b0.agr s0
 refine AR [.bool j0.fc,d0] p0 .hd (o2 rfl (AX g0)) (fun F0 c0 q0=>?_)
 refine Aa<|Ak rfl<|Ap hb0 Tryz.func184 rfl (.cons (.many (cs:=[.bool j0.fc,d0]) (by kernel_rfl) rfl (c0.memA .hd)) .nil) rfl ?_
 cases h
 have t0:=Av g0 q0
 exact ⟨c0.ag,fun w9 hw9=>⟨d0,rfl,c0.kd t0 hw9⟩⟩
def wardmoteref01_more_l1 (_n:Nat) (a0:List Int) (a1:List Int) (g0:Int × Int × (List Int) → Option (List Int)):Int × Int × (List Int) → Option (List Int)
  | (c0,b0,d0)=>(if b0 < ((a0.length:Nat):Int) then (idx a0 b0).bind fun C0=>(chk (c0 + C0)).bind fun k0=>jn (fun q0=>(remI q0 4294967296).bind fun s0=>(app d0 ([s0]:List Int)).bind fun F0=>(quoI q0 4294967296).bind fun t0=>(chk (b0 + 1)).bind fun u0=>g0 (t0,u0,F0)) (fun j0=>(if b0 < ((a1.length:Nat):Int) then (idx a1 b0).bind fun D0=>(chk (k0 + D0)).bind fun v0=>j0 v0 else j0 k0)) else (if b0 < ((a1.length:Nat):Int) then (idx a1 b0).bind fun E0=>(chk (c0 + E0)).bind fun p0=>(remI p0 4294967296).bind fun x0=>(app d0 ([x0]:List Int)).bind fun G0=>(quoI p0 4294967296).bind fun y0=>g0 (y0,b0 + 1,G0) else (if 0 < c0 then (remI c0 4294967296).bind fun z0=>(app d0 ([z0]:List Int)).bind fun H0=>(quoI c0 4294967296).bind fun A0=>(chk (b0 + 1)).bind fun B0=>g0 (A0,B0,H0) else some d0)))
def wardmoteref01_more_p (n:Nat) (a0:List Int) (a1:List Int):Option (List Int):=
  Option.bind (loopF (wardmoteref01_more_l1 n a0 a1) n (0,0,([]:List Int))) (fun b0=>some b0)
theorem wardmoteref01_more_c (n:Nat) (L:List Nat) (w:World) (hL:∀ b ∈ L,b < w.heap.size) (a0:List Int) {v0_0:Value} (h0_0:Rep.R w L [v0_0] a0) (a1:List Int) {v1_0:Value} (h1_0:Rep.R w L [v1_0] a1)  {r:List Int} (h:wardmoteref01_more_p n a0 a1 = some r) :
    Calls Tryz.prog 187 #[v0_0,v1_0] w (Gives w fun w' u=>∃ v0_0:Value,u = v0_0∧Rep.R w' L [v0_0] r):=by
 unfold wardmoteref01_more_p at h
 have hS0:=Az w
 refine AC Tryz.func187 rfl rfl rfl (fun _ cs0 hb0=>?_)
 refine Ac<|Af rfl<|Aa<|Ac<|Af rfl<|Aa<|Ac<|Af rfl<|Aa<|Ai<|Ac<|Af rfl<|Aa<|Aq ?_
 have K0:=hS0.nilRow 3 (Rep.size Int)
 have U3:=St.nilRowT hS0 3 (Rep.size Int)
 have G1:=AO (cs:=[]) (xs:=([]:List Int)) K0 L (AU _ _)
 obtain ⟨Z3,z2,Y1⟩:=bind_in2 h
 refine Bg (α:=Int × Int × (List Int) × Value × (List Value)) (fun ⟨k0,b0,d0,c0,g0⟩=>[(0,v0_0),(1,v1_0),(5,c0),(6,vI k0),(7,vI b0)]) (fun ⟨k0,b0,d0,c0,g0⟩ x0=>St w x0 [.row w.heap.size 3 (Rep.size Int) c0 d0.length g0]∧Tr w [.row w.heap.size 3 (Rep.size Int) vN (([]:List Int).length) []] x0 [.row w.heap.size 3 (Rep.size Int) c0 d0.length g0]∧Cells x0 (bl [.row w.heap.size 3 (Rep.size Int) c0 d0.length g0] ++ L) g0 d0) (fun ⟨k0,b0,d0,c0,g0⟩=>(k0,b0,d0)) (0,0,([]:List Int),vN,[]) z2 ⟨rfl,rfl,rfl,rfl,rfl,trivial⟩ ⟨K0,AQ _ _,G1⟩ ?_
 rintro H3 ⟨k0,b0,d0,c0,g0⟩ x0 B0 ⟨j0,G0,z0⟩ h
 unfold wardmoteref01_more_l1 at h
 try dsimp only at h
 refine Ai<|Ac<|Ae rfl<|Ae rfl ?_
 have u0:=AE h0_0 j0
 have W3:a0.length ≤ 281474976710656:=AT u0
 refine Ab (AY (xs:=a0) Tryz.underlying52 rfl u0)<|Ab (FV.lss (i:=b0) (j:=((a0.length:Nat):Int)) rfl rfl)<|Ae rfl<|RG.ifd (s:=12) rfl h (fun y0 h=>?_) (fun y0 h=>?_)
 refine AA<|AA<|AA<|AA<|BF rfl rfl<|Ae rfl<|AA<|AA<|BF rfl rfl<|Aa<|AV rfl<|Ao<|Ai<|Aq<|Ai<|Ac<|Ae rfl<|Ae rfl<|Ab (AY (xs:=a0) Tryz.underlying52 rfl u0)<|Ab (FV.lss (i:=b0) (j:=((a0.length:Nat):Int)) rfl rfl)<|Aa<|MX.cond_kt rfl (decide_eq_true y0)<|Al<|Ae rfl ?_
 refine Ae rfl<|Ae rfl ?_
 obtain ⟨Z0,Y2,h⟩:=bi h
 obtain ⟨Z1,Z2⟩:=idx_in Y2
 obtain ⟨E3,P3,Q1,d2,j1,D2,k2⟩:=Bi u0 Z2
 have R1:j1 = [vI Z0]:=D2; subst R1
 refine Ab (Bk 1 (b0.toNat) rfl Q1 rfl Z1 d2)<|AS rfl (k2 0 _ rfl) ?_
 obtain ⟨X0,I2,h⟩:=bi h
 refine Ab (FV.addc (i:=k0) (j:=Z0) rfl rfl I2)<|Af rfl<|Aa<|Ai<|Ac<|Ae rfl<|Ae rfl ?_
 have H0:=AE h1_0 j0
 have X3:a1.length ≤ 281474976710656:=AT H0
 refine Ab (AY (xs:=a1) Tryz.underlying52 rfl H0)<|Ab (FV.lss (i:=b0) (j:=((a1.length:Nat):Int)) rfl rfl)<|Aa<|MX.join (α:=Int) (fun t0=>[(0,v0_0),(1,v1_0),(5,c0),(6,vI t0),(7,vI b0)]) (fun t0 I0=>St w I0 [.row w.heap.size 3 (Rep.size Int) c0 d0.length g0]∧Tr x0 [.row w.heap.size 3 (Rep.size Int) c0 d0.length g0] I0 [.row w.heap.size 3 (Rep.size Int) c0 d0.length g0]) (fun t0=>t0) h ?_ ?_
 rintro t0 I0 ⟨v1,M0⟩ h
 try dsimp only at h
 refine Ac<|Ae rfl<|Ae rfl ?_
 obtain ⟨p0,J2,h⟩:=bi h
 refine Ab (FV.remc (i:=t0) (j:=4294967296) rfl rfl J2)<|Am .plain rfl (Bd (α:=Int) (xs:=([p0]:List Int)) (vs:=[vI p0]) (ds' :=[vI p0]) rfl v1 el52 rfl (e1 rfl) (by kernel_rfl) rfl) (fun b4 J3 C0 P0=>?_)
 have H1:=AO (cs:=[vI p0]) (xs:=(([p0]:List Int):List Int)) C0 L (Ax (cs:=[vI p0]) (ds:=[]) rfl (AU _ _))
 obtain ⟨B3,j3,h⟩:=bi h
 have p2:=Bc z0 (Tt M0 P0)
 refine RG.doesL .plain rfl (BE (α:=Int) (ys:=([p0]:List Int)) j3 C0 (fun _ _=>(.tl .hd)) el52 rfl rfl p2 (Src.row (α:=Int) C0 .hd H1)) (fun y3 c4 ⟨k1,x1,D1,I1⟩=>?_)
 refine Af rfl<|Aa<|Al<|Ae rfl ?_
 obtain ⟨q3,K2,h⟩:=bi h
 refine Ab (FV.quoc (i:=t0) (j:=4294967296) rfl rfl K2)<|Af rfl<|Aa<|Ar<|Al<|Ae rfl ?_
 obtain ⟨s3,M2,h⟩:=bi h
 refine Ab (FV.addc (i:=b0) (j:=1) rfl rfl M2)<|Af rfl<|Aa ?_
 obtain ⟨y1,Q0⟩:=AH x1 (.one (.tl .hd) .done)
 have q2:=Bc I1 Q0
 have A2:=Tt M0 (Tt P0 (Tt D1 Q0))
 exact B0 (q3,s3,B3,y3,k1) _ _ ⟨rfl,rfl,rfl,rfl,rfl,trivial⟩ ⟨y1,(Tt G0 A2),q2⟩ h
 intro I3 J0 h
 try dsimp only at h
 refine AK rfl h (fun d1 h=>?_) (fun d1 h=>?_)
 refine Al<|Ae rfl<|Ae rfl<|Ae rfl ?_
 obtain ⟨b1,b3,h⟩:=bi h
 obtain ⟨b2,c3⟩:=idx_in b3
 obtain ⟨F3,Q3,U1,g2,p1,E2,s2⟩:=Bi H0 c3
 have V1:p1 = [vI b1]:=E2; subst V1
 refine Ab (Bk 1 (b0.toNat) rfl U1 rfl b2 g2)<|AS rfl (s2 0 _ rfl) ?_
 obtain ⟨t3,P2,h⟩:=bi h
 refine Ab (FV.addc (i:=X0) (j:=b1) rfl rfl P2)<|Af rfl<|Aa ?_
 exact J0 t3 _ _ ⟨rfl,rfl,rfl,rfl,rfl,trivial⟩ ⟨j0,AQ _ _⟩ h
 refine Ao ?_
 exact J0 X0 _ _ ⟨rfl,rfl,rfl,rfl,rfl,trivial⟩ ⟨j0,AQ _ _⟩ h
 refine AJ (Aj rfl)<|AJ (Aj rfl) ?_
 have v0:=AE h1_0 j0
 have Y3:a1.length ≤ 281474976710656:=AT v0
 refine AJ (AY (xs:=a1) Tryz.underlying52 rfl v0)<|AJ (FV.lss (i:=b0) (j:=((a1.length:Nat):Int)) rfl rfl)<|Bx rfl rfl<|Ae rfl<|RG.ifd (s:=18) rfl h (fun A0 h=>?_) (fun A0 h=>?_)
 refine AA<|AA<|BF rfl rfl<|Aa<|AV rfl<|Ao<|Ai<|Aq<|Ai<|Ac<|Ae rfl<|Ae rfl<|Ab (AY (xs:=a0) Tryz.underlying52 rfl u0)<|Ab (FV.lss (i:=b0) (j:=((a0.length:Nat):Int)) rfl rfl)<|Aa<|MX.cond_kf rfl (decide_eq_false y0)<|Ao<|Ai<|Ac<|Ae rfl<|Ae rfl<|Ab (AY (xs:=a1) Tryz.underlying52 rfl v0)<|Ab (FV.lss (i:=b0) (j:=((a1.length:Nat):Int)) rfl rfl)<|Aa ?_
 refine MX.cond_kt rfl (decide_eq_true A0)<|Al<|Ae rfl<|Ae rfl<|Ae rfl ?_
 obtain ⟨c1,d3,h⟩:=bi h
 obtain ⟨c2,g3⟩:=idx_in d3
 obtain ⟨G3,R3,W1,j2,q1,F2,t2⟩:=Bi v0 g3
 have X1:q1 = [vI c1]:=F2; subst X1
 refine Ab (Bk 1 (b0.toNat) rfl W1 rfl c2 j2)<|AS rfl (t2 0 _ rfl) ?_
 obtain ⟨Y0,Q2,h⟩:=bi h
 refine Ab (FV.addc (i:=k0) (j:=c1) rfl rfl Q2)<|Af rfl<|Aa<|Ac<|Ae rfl<|Ae rfl ?_
 obtain ⟨q0,R2,h⟩:=bi h
 refine Ab (FV.remc (i:=Y0) (j:=4294967296) rfl rfl R2)<|Am .plain rfl (Bd (α:=Int) (xs:=([q0]:List Int)) (vs:=[vI q0]) (ds' :=[vI q0]) rfl j0 el52 rfl (e1 rfl) (by kernel_rfl) rfl) (fun d4 K3 D0 R0=>?_)
 have J1:=AO (cs:=[vI q0]) (xs:=(([q0]:List Int):List Int)) D0 L (Ax (cs:=[vI q0]) (ds:=[]) rfl (AU _ _))
 obtain ⟨C3,k3,h⟩:=bi h
 have u2:=Bc z0 R0
 refine RG.doesL .plain rfl (BE (α:=Int) (ys:=([q0]:List Int)) k3 D0 (fun _ _=>(.tl .hd)) el52 rfl rfl u2 (Src.row (α:=Int) D0 .hd J1)) (fun z3 g4 ⟨s1,z1,E1,K1⟩=>?_)
 refine Af rfl<|Aa<|Al<|Ae rfl ?_
 obtain ⟨u3,U2,h⟩:=bi h
 refine Ab (FV.quoc (i:=Y0) (j:=4294967296) rfl rfl U2)<|Af rfl<|Aa<|Ar<|Al<|Ae rfl<|Ab (FV.addI (i:=b0) (j:=1) rfl rfl (by omega))<|Af rfl<|Aa ?_
 obtain ⟨A1,U0⟩:=AH z1 (.one (.tl .hd) .done)
 have v2:=Bc K1 U0
 have B2:=Tt R0 (Tt E1 U0)
 exact B0 (u3,b0 + 1,C3,z3,s1) _ _ ⟨rfl,rfl,rfl,rfl,rfl,trivial⟩ ⟨A1,(Tt G0 B2),v2⟩ h
 refine AJ (Aj rfl)<|AJ (FV.gtr (i:=k0) (j:=0) rfl rfl)<|Bx rfl rfl<|Aa<|AK rfl h (fun g1 h=>?_) (fun g1 h=>?_)
 refine Ao<|Ai<|Aq<|Ai<|Ac<|Ae rfl<|Ae rfl<|Ab (AY (xs:=a0) Tryz.underlying52 rfl u0)<|Ab (FV.lss (i:=b0) (j:=((a0.length:Nat):Int)) rfl rfl)<|Aa<|MX.cond_kf rfl (decide_eq_false y0)<|Ao<|Ai<|Ac<|Ae rfl<|Ae rfl<|Ab (AY (xs:=a1) Tryz.underlying52 rfl v0)<|Ab (FV.lss (i:=b0) (j:=((a1.length:Nat):Int)) rfl rfl)<|Aa<|MX.cond_kf rfl (decide_eq_false A0)<|Ao<|Ac<|Ae rfl<|Ae rfl ?_
 obtain ⟨s0,V2,h⟩:=bi h
 refine Ab (FV.remc (i:=k0) (j:=4294967296) rfl rfl V2)<|Am .plain rfl (Bd (α:=Int) (xs:=([s0]:List Int)) (vs:=[vI s0]) (ds' :=[vI s0]) rfl j0 el52 rfl (e1 rfl) (by kernel_rfl) rfl) (fun j4 M3 E0 V0=>?_)
 have M1:=AO (cs:=[vI s0]) (xs:=(([s0]:List Int):List Int)) E0 L (Ax (cs:=[vI s0]) (ds:=[]) rfl (AU _ _))
 obtain ⟨D3,p3,h⟩:=bi h
 have x2:=Bc z0 V0
 refine RG.doesL .plain rfl (BE (α:=Int) (ys:=([s0]:List Int)) p3 E0 (fun _ _=>(.tl .hd)) el52 rfl rfl x2 (Src.row (α:=Int) E0 .hd M1)) (fun A3 k4 ⟨u1,B1,F1,P1⟩=>?_)
 refine Af rfl<|Aa<|Al<|Ae rfl ?_
 obtain ⟨v3,W2,h⟩:=bi h
 refine Ab (FV.quoc (i:=k0) (j:=4294967296) rfl rfl W2)<|Af rfl<|Aa<|Ar<|Al<|Ae rfl ?_
 obtain ⟨x3,X2,h⟩:=bi h
 refine Ab (FV.addc (i:=b0) (j:=1) rfl rfl X2)<|Af rfl<|Aa ?_
 obtain ⟨C1,W0⟩:=AH B1 (.one (.tl .hd) .done)
 have y2:=Bc P1 W0
 have C2:=Tt V0 (Tt F1 W0)
 exact B0 (v3,x3,D3,A3,u1) _ _ ⟨rfl,rfl,rfl,rfl,rfl,trivial⟩ ⟨C1,(Tt G0 C2),y2⟩ h
 refine AW rfl ?_
 have h:=Y1 _ h
 try dsimp only at h
 refine Ac<|Ae rfl<|Af rfl<|Aa<|Ak rfl ?_
 have G2:=Bq (α:=Int) j0 .hd z0 hL
 have F0:=BB j0 .hd
 have V3:=BC j0 .hd
 have H2:=BD (α:=Int) (v:=c0) (xs:=d0) F0 L G2
 refine AP hb0 Tryz.func187 rfl rfl ?_
 cases h
 exact ⟨F0.ag,fun w9 hw9=>⟨c0,rfl,F0.kd H2 hw9⟩⟩
def tb159_2:List (Nat × Nat × Nat):=[(0,1024,4),(1,2048,1024),(0,4096,4),(4,8192,4096),(0,16384,8),(16,32768,16384),(40,65536,40960),(66,131072,67584),(255,0,131088)]
def tb159_4:List (Nat × Nat × Nat):=[(0,16777216,4),(1,33554432,16777216),(0,67108864,4),(4,134217728,67108864),(0,268435456,8),(16,536870912,268435456),(40,1073741824,671088640),(66,2147483648,1107296256),(255,0,2147483664)]
def tb159_5:List (Nat × Nat × Nat):=[(0,4294967296,8),(1,8589934592,4294967296),(0,17179869184,8),(4,34359738368,17179869184),(0,68719476736,4),(16,137438953472,68719476736),(40,274877906944,171798691840),(66,549755813888,283467841536),(255,0,549755813904)]
theorem body187:bodyB Tryz.prog 187 = true:=by kernel_rfl
def wardmoteref01_Plus_p (n:Nat) (a0:TLong188) (a1:TLong188):Option TLong188:=
  (if (a0.fc == a1.fc) = true then (wardmoteref01_more_p n a0.fD a1.fD).bind fun b0=>(wardmoteref01_made_p n a0.fc b0).bind fun c0=>some c0 else (wardmoteref01_order_p n a0.fD a1.fD).bind fun d0=>(if 0 ≤ d0 then (wardmoteref01_less_p n a0.fD a1.fD).bind fun g0=>(wardmoteref01_made_p n a0.fc g0).bind fun j0=>some j0 else (wardmoteref01_less_p n a1.fD a0.fD).bind fun k0=>(wardmoteref01_made_p n a1.fc k0).bind fun p0=>some p0))
theorem wardmoteref01_Plus_c (n:Nat) (L:List Nat) (w:World) (hL:∀ b ∈ L,b < w.heap.size) (a0:TLong188) {v0_1:Value} (h0_1:Rep.R w L [v0_1] a0.fD) (a1:TLong188) {v1_1:Value} (h1_1:Rep.R w L [v1_1] a1.fD)  {r:TLong188} (h:wardmoteref01_Plus_p n a0 a1 = some r) :
    Calls Tryz.prog 159 #[.agg #[.bool a0.fc,v0_1],.agg #[.bool a1.fc,v1_1]] w (Gives w fun w' u=>∃ v0_1:Value,u = .agg #[.bool r.fc,v0_1]∧Rep.R w' L [v0_1] r.fD):=by
 unfold wardmoteref01_Plus_p at h
 have hS0:=Az w
 refine AC Tryz.func159 rfl rfl rfl (fun _ cs0 hb0=>?_)
 refine Ac<|Am .plain rfl (AB hS0 rfl rfl) (fun k2 F1 M0 I1=>?_)
 refine Am .plain rfl (AB M0 rfl rfl) (fun p2 G1 P0 J1=>?_)
 refine Am .plain rfl (Ay [.bool false,vN] P0) (fun q2 H1 b0 K1=>?_)
 refine Aa<|Ai<|Ac<|Be 0 rfl<|AS rfl ((b0.memA (.tl (.tl .hd))) 0 _ rfl)<|Be 0 rfl<|AS rfl ((b0.memA (.tl .hd)) 0 _ rfl)<|Ab (FV.eqlB (a:=a0.fc) (b:=a1.fc) Tryz.underlying4 rfl rfl)<|Aa<|MX.ifb rfl h (fun J0 h=>?_) (fun J0 h=>?_)
 refine Ai<|dt 8 tb159_2 (fun c0 j0=>?_)
 refine Ah 0 1 c0 rfl j0 (fun _=>Bl 0 rfl) rfl<|AF 1 3 384 c0 rfl j0 (AG rfl ((b0.memA (.tl (.tl .hd))) 0 _ rfl)) rfl<|Ah 2 7 c0 rfl j0 (fun _=>Bl 1 rfl) rfl<|AF 3 15 448 c0 rfl j0 (AG rfl ((b0.memA (.tl (.tl .hd))) 1 _ rfl)) rfl<|Ah 4 31 c0 rfl j0 (fun _=>Bl 1 rfl) rfl<|AF 5 63 448 c0 rfl j0 (AG rfl ((b0.memA (.tl .hd)) 1 _ rfl)) rfl ?_
 obtain ⟨C1,u1,h⟩:=bi h
 refine Bu 6 127 c0 rfl .plain body187 rfl (e2 rfl rfl) (fun w9 hw9=>wardmoteref01_more_c n _ w9 (b0.hL hL hw9) a0.fD (b0.km h0_1 hw9) a1.fD (b0.km h1_1 hw9) u1) rfl (fun s2 Z1 Y0 ⟨W1,hu_,q1⟩=>?_)
 subst hu_
 obtain ⟨z0,M1⟩:=b0.agr Y0
 obtain ⟨F0,v1,h⟩:=bi h
 refine Bu 7 255 c0 rfl .plain body179 rfl (e2 rfl rfl) (fun w9 hw9=>wardmoteref01_made_c n _ w9 (z0.hL hL hw9) a0.fc C1 (Au q1 hw9) v1) rfl (fun t2 b2 Z0 ⟨v0,hu_,C0⟩=>?_)
 subst hu_
 obtain ⟨Q0,P1⟩:=z0.agr Z0
 refine Bv 8 511 c0 rfl rfl .plain (Aw (news:=[.bool F0.fc,v0]) Q0 .hd rfl rfl rfl rfl rfl rfl (o2 rfl (AX C0))) (fun u2 s0 V0=>?_)
 refine AM (dk c0)<|Ak rfl<|Ap hb0 Tryz.func159 rfl (.cons (.many (cs:=[.bool F0.fc,v0]) (by kernel_rfl) rfl (s0.memA .hd)) .nil) rfl ?_
 cases h
 have j1:=Av C0 V0
 exact ⟨s0.ag,fun w9 hw9=>⟨v0,rfl,s0.kd j1 hw9⟩⟩
 refine Ao<|Ai<|Ac<|Be 1 rfl<|AS rfl ((b0.memA (.tl (.tl .hd))) 1 _ rfl)<|Be 1 rfl<|AS rfl ((b0.memA (.tl .hd)) 1 _ rfl) ?_
 obtain ⟨G0,x1,h⟩:=bi h
 refine Bb (vI G0) body183 rfl (e2 rfl rfl) (fun w9 hw9=>wardmoteref01_order_c n _ w9 (b0.hL0 hL hw9) a0.fD (b0.k0 h0_1 hw9) a1.fD (b0.k0 h1_1 hw9) x1) rfl<|Ab (FV.geq (i:=G0) (j:=0) rfl rfl)<|Aa<|AK rfl h (fun K0 h=>?_) (fun K0 h=>?_)
 refine Ai<|dt 8 tb159_4 (fun d0 p0=>?_)
 refine Ah 0 1 d0 rfl p0 (fun _=>Bl 0 rfl) rfl<|AF 1 3 384 d0 rfl p0 (AG rfl ((b0.memA (.tl (.tl .hd))) 0 _ rfl)) rfl<|Ah 2 7 d0 rfl p0 (fun _=>Bl 1 rfl) rfl<|AF 3 15 448 d0 rfl p0 (AG rfl ((b0.memA (.tl (.tl .hd))) 1 _ rfl)) rfl<|Ah 4 31 d0 rfl p0 (fun _=>Bl 1 rfl) rfl<|AF 5 63 448 d0 rfl p0 (AG rfl ((b0.memA (.tl .hd)) 1 _ rfl)) rfl ?_
 obtain ⟨D1,y1,h⟩:=bi h
 refine Bu 6 127 d0 rfl .plain body180 rfl (e2 rfl rfl) (fun w9 hw9=>wardmoteref01_less_c n _ w9 (b0.hL hL hw9) a0.fD (b0.km h0_1 hw9) a1.fD (b0.km h1_1 hw9) y1) rfl (fun v2 c2 b1 ⟨X1,hu_,s1⟩=>?_)
 subst hu_
 obtain ⟨A0,Q1⟩:=b0.agr b1
 obtain ⟨H0,z1,h⟩:=bi h
 refine Bu 7 255 d0 rfl .plain body179 rfl (e2 rfl rfl) (fun w9 hw9=>wardmoteref01_made_c n _ w9 (A0.hL hL hw9) a0.fc D1 (Au s1 hw9) z1) rfl (fun x2 d2 c1 ⟨x0,hu_,D0⟩=>?_)
 subst hu_
 obtain ⟨R0,R1⟩:=A0.agr c1
 refine Bv 8 511 d0 rfl rfl .plain (Aw (news:=[.bool H0.fc,x0]) R0 .hd rfl rfl rfl rfl rfl rfl (o2 rfl (AX D0))) (fun y2 t0 W0=>?_)
 refine AM (dk d0)<|Ak rfl<|Ap hb0 Tryz.func159 rfl (.cons (.many (cs:=[.bool H0.fc,x0]) (by kernel_rfl) rfl (t0.memA .hd)) .nil) rfl ?_
 cases h
 have k1:=Av D0 W0
 exact ⟨t0.ag,fun w9 hw9=>⟨x0,rfl,t0.kd k1 hw9⟩⟩
 refine Ao<|Ai<|dt 8 tb159_5 (fun g0 q0=>?_)
 refine Ah 0 1 g0 rfl q0 (fun _=>Bl 0 rfl) rfl<|AF 1 3 384 g0 rfl q0 (AG rfl ((b0.memA (.tl .hd)) 0 _ rfl)) rfl<|Ah 2 7 g0 rfl q0 (fun _=>Bl 1 rfl) rfl<|AF 3 15 448 g0 rfl q0 (AG rfl ((b0.memA (.tl .hd)) 1 _ rfl)) rfl<|Ah 4 31 g0 rfl q0 (fun _=>Bl 1 rfl) rfl<|AF 5 63 448 g0 rfl q0 (AG rfl ((b0.memA (.tl (.tl .hd))) 1 _ rfl)) rfl ?_
 obtain ⟨E1,A1,h⟩:=bi h
 refine Bu 6 127 g0 rfl .plain body180 rfl (e2 rfl rfl) (fun w9 hw9=>wardmoteref01_less_c n _ w9 (b0.hL hL hw9) a1.fD (b0.km h1_1 hw9) a0.fD (b0.km h0_1 hw9) A1) rfl (fun z2 g2 d1 ⟨Y1,hu_,t1⟩=>?_)
 subst hu_
 obtain ⟨B0,U1⟩:=b0.agr d1
 obtain ⟨I0,B1,h⟩:=bi h
 refine Bu 7 255 g0 rfl .plain body179 rfl (e2 rfl rfl) (fun w9 hw9=>wardmoteref01_made_c n _ w9 (B0.hL hL hw9) a1.fc E1 (Au t1 hw9) B1) rfl (fun A2 j2 g1 ⟨y0,hu_,E0⟩=>?_)
 subst hu_
 obtain ⟨U0,V1⟩:=B0.agr g1
 refine Bv 8 511 g0 rfl rfl .plain (Aw (news:=[.bool I0.fc,y0]) U0 .hd rfl rfl rfl rfl rfl rfl (o2 rfl (AX E0))) (fun B2 u0 X0=>?_)
 refine AM (dk g0)<|Ak rfl<|Ap hb0 Tryz.func159 rfl (.cons (.many (cs:=[.bool I0.fc,y0]) (by kernel_rfl) rfl (u0.memA .hd)) .nil) rfl ?_
 cases h
 have p1:=Av E0 X0
 exact ⟨u0.ag,fun w9 hw9=>⟨y0,rfl,u0.kd p1 hw9⟩⟩
def wardmoteref01_Long1_p (n:Nat) (a0:Int):Option TLong188:=
  jn (fun u16=>(wardmoteref01_made_p n (decide (a0 < 0)) ([i64of (u16 % (4294967296:UInt64)),i64of (u16 / (4294967296:UInt64))]:List Int)).bind fun c0=>some c0) (fun b0=>(if a0 < 0 then b0 (-(u64of a0)) else b0 (u64of a0)))
theorem wardmoteref01_Long1_c (n:Nat) (L:List Nat) (w:World) (hL:∀ b ∈ L,b < w.heap.size) (a0:Int)  {r:TLong188} (h:wardmoteref01_Long1_p n a0 = some r) :
    Calls Tryz.prog 163 #[vI a0] w (Gives w fun w' u=>∃ v0_1:Value,u = .agg #[.bool r.fc,v0_1]∧Rep.R w' L [v0_1] r.fD):=by
 unfold wardmoteref01_Long1_p at h
 have hS0:=Az w
 refine AC Tryz.func163 rfl rfl rfl (fun _ cs0 hb0=>?_)
 refine Ac<|Am .plain rfl (Ay [.bool false,vN] hS0) (fun G0 b0 q0 I0=>?_)
 refine Aa<|Ac<|Ae rfl<|Ab (FV.lss (i:=a0) (j:=0) rfl rfl)<|Af rfl<|Aa<|Ac<|Ae rfl<|Ab (FV.convU (i:=a0) Tryz.underlying3 Tryz.underlying28 rfl)<|Af rfl<|Aa<|Ai<|Ac<|Ae rfl<|Aa<|MX.join (α:=UInt64) (fun u16=>[(2,vP b0),(3,.bool (decide (a0 < 0))),(4,vU u16)]) (fun u16 k0=>St w k0 [.cells b0 [.bool false,vN] 189]∧Tr G0 [.cells b0 [.bool false,vN] 189] k0 [.cells b0 [.bool false,vN] 189]) (fun u16=>u16) h ?_ ?_
 rintro u16 k0 ⟨x0,J0⟩ h
 try dsimp only at h
 refine Ac<|Ae rfl<|Ae rfl<|Ab (FV.remU (a:=u16) (b:=(4294967296:UInt64)) rfl rfl (by decide))<|Ab (FV.convUI (a:=u16 % (4294967296:UInt64)) Tryz.underlying28 Tryz.underlying3 rfl)<|Ae rfl<|Ab (FV.quoU (a:=u16) (b:=(4294967296:UInt64)) rfl rfl (by decide))<|Ab (FV.convUI (a:=u16 / (4294967296:UInt64)) Tryz.underlying28 Tryz.underlying3 rfl)<|Am .plain rfl (Bd (α:=Int) (xs:=([i64of (u16 % (4294967296:UInt64)),i64of (u16 / (4294967296:UInt64))]:List Int)) (vs:=[vI (i64of (u16 % (4294967296:UInt64))),vI (i64of (u16 / (4294967296:UInt64)))]) (ds' :=[vI (i64of (u16 % (4294967296:UInt64))),vI (i64of (u16 / (4294967296:UInt64)))]) rfl x0 el52 rfl (e2 rfl rfl) (by kernel_rfl) rfl) (fun R0 u0 c0 K0=>?_)
 have B0:=AO (cs:=[vI (i64of (u16 % (4294967296:UInt64))),vI (i64of (u16 / (4294967296:UInt64)))]) (xs:=(([i64of (u16 % (4294967296:UInt64)),i64of (u16 / (4294967296:UInt64))]:List Int):List Int)) c0 L (Ax (cs:=[vI (i64of (u16 % (4294967296:UInt64)))]) (ds:=[vI (i64of (u16 / (4294967296:UInt64)))]) rfl (Ax (cs:=[vI (i64of (u16 / (4294967296:UInt64)))]) (ds:=[]) rfl (AU _ _)))
 have D0:=Bq (α:=Int) c0 .hd B0 hL
 have d0:=BB c0 .hd
 have M0:=BC c0 .hd
 have E0:=BD (α:=Int) (v:=(vS u0 2)) (xs:=([i64of (u16 % (4294967296:UInt64)),i64of (u16 / (4294967296:UInt64))]:List Int)) d0 L D0
 obtain ⟨t0,F0,h⟩:=bi h
 refine Bf (fst:=[]) (cap:=[]) .plain body179 rfl (e2 rfl rfl) (fun w9 hw9=>wardmoteref01_made_c n _ w9 (d0.hL hL hw9) (decide (a0 < 0)) ([i64of (u16 % (4294967296:UInt64)),i64of (u16 / (4294967296:UInt64))]:List Int) (Au E0 hw9) F0) rfl (fun U0 Q0 A0 ⟨j0,hu_,s0⟩=>?_)
 subst hu_
 obtain ⟨y0,P0⟩:=d0.agr A0
 refine AR [.bool t0.fc,j0] y0 .hd (o2 rfl (AX s0)) (fun V0 g0 z0=>?_)
 refine Aa<|Ak rfl<|Ap hb0 Tryz.func163 rfl (.cons (.many (cs:=[.bool t0.fc,j0]) (by kernel_rfl) rfl (g0.memA .hd)) .nil) rfl ?_
 cases h
 have C0:=Av s0 z0
 exact ⟨g0.ag,fun w9 hw9=>⟨j0,rfl,g0.kd C0 hw9⟩⟩
 intro H0 p0 h
 try dsimp only at h
 refine AK rfl h (fun v0 h=>?_) (fun v0 h=>?_)
 refine Al<|Ae rfl<|Ab (FV.negU (a:=u64of a0) rfl)<|Af rfl<|Aa ?_
 exact p0 (-(u64of a0)) _ _ ⟨rfl,rfl,rfl,trivial⟩ ⟨q0,AQ _ _⟩ h
 refine Ao ?_
 exact p0 (u64of a0) _ _ ⟨rfl,rfl,rfl,trivial⟩ ⟨q0,AQ _ _⟩ h
def tb199_1:List (Nat × Nat × Nat):=[(0,32,4),(0,64,8),(2,128,64),(5,256,160),(15,0,272)]
theorem body159:bodyB Tryz.prog 159 = true:=by kernel_rfl
theorem body184:bodyB Tryz.prog 184 = true:=by kernel_rfl
def wardmoteref01_Minus_p (n:Nat) (a0:TLong188) (a1:TLong188):Option TLong188:=
  (wardmoteref01_Turn_p n a1).bind fun b0=>(wardmoteref01_Plus_p n a0 b0).bind fun c0=>some c0
theorem wardmoteref01_Minus_c (n:Nat) (L:List Nat) (w:World) (hL:∀ b ∈ L,b < w.heap.size) (a0:TLong188) {v0_1:Value} (h0_1:Rep.R w L [v0_1] a0.fD) (a1:TLong188) {v1_1:Value} (h1_1:Rep.R w L [v1_1] a1.fD)  {r:TLong188} (h:wardmoteref01_Minus_p n a0 a1 = some r) :
    Calls Tryz.prog 199 #[.agg #[.bool a0.fc,v0_1],.agg #[.bool a1.fc,v1_1]] w (Gives w fun w' u=>∃ v0_1:Value,u = .agg #[.bool r.fc,v0_1]∧Rep.R w' L [v0_1] r.fD):=by
 unfold wardmoteref01_Minus_p at h
 have hS0:=Az w
 refine AC Tryz.func199 rfl rfl rfl (fun _ cs0 hb0=>?_)
 refine Ac<|Am .plain rfl (AB hS0 rfl rfl) (fun U0 E0 s0 H0=>?_)
 refine Am .plain rfl (AB s0 rfl rfl) (fun V0 F0 t0 I0=>?_)
 refine Am .plain rfl (Ay [.bool false,vN] t0) (fun W0 G0 c0 J0=>?_)
 refine Aa<|Ai<|dt 4 tb199_1 (fun b0 p0=>?_)
 refine AF 0 1 24 b0 rfl p0 (AI rfl (c0.memA (.tl (.tl .hd)))) rfl<|AF 1 3 28 b0 rfl p0 (AI rfl (c0.memA (.tl .hd))) rfl ?_
 obtain ⟨D0,B0,h⟩:=bi h
 refine Bu 2 7 b0 rfl .plain body184 rfl (e1 rfl) (fun w9 hw9=>wardmoteref01_Turn_c n _ w9 (c0.hL hL hw9) a1 (c0.km h1_1 hw9) B0) rfl (fun X0 Q0 x0 ⟨P0,hu_,A0⟩=>?_)
 subst hu_
 obtain ⟨d0,K0⟩:=c0.agr x0
 obtain ⟨q0,C0,h⟩:=bi h
 refine Bu 3 15 b0 rfl .plain body159 rfl (e2 rfl rfl) (fun w9 hw9=>wardmoteref01_Plus_c n _ w9 (d0.hL hL hw9) a0 (d0.km h0_1 hw9) D0 (Au A0 hw9) C0) rfl (fun Y0 R0 y0 ⟨j0,hu_,k0⟩=>?_)
 subst hu_
 obtain ⟨u0,M0⟩:=d0.agr y0
 refine Bv 4 31 b0 rfl rfl .plain (Aw (news:=[.bool q0.fc,j0]) u0 .hd rfl rfl rfl rfl rfl rfl (o2 rfl (AX k0))) (fun Z0 g0 v0=>?_)
 refine AM (dk b0)<|Ak rfl<|Ap hb0 Tryz.func199 rfl (.cons (.many (cs:=[.bool q0.fc,j0]) (by kernel_rfl) rfl (g0.memA .hd)) .nil) rfl ?_
 cases h
 have z0:=Av k0 v0
 exact ⟨g0.ag,fun w9 hw9=>⟨j0,rfl,g0.kd z0 hw9⟩⟩
def tb185_2:List (Nat × Nat × Nat):=[(0,262144,4),(1,524288,262144),(0,1048576,8),(4,2097152,1048576),(10,4194304,2621440),(0,8388608,64),(48,16777216,12582912),(0,33554432,4),(128,67108864,33554432),(0,134217728,128),(832,268435456,201326592),(0,256,0),(0,512,0),(7295,0,16777472),(16383,0,268435968)]
def tb185_6:List (Nat × Nat × Nat):=[(0,274877906944,256),(0,549755813888,0),(3,1099511627776,824633720832),(7,0,1099511628032)]
def tb185_8:List (Nat × Nat × Nat):=[(0,17592186044416,256),(0,35184372088832,512),(1,0,17592186044432),(7,0,35184372088864)]
def tb185_7:List (Nat × Nat × Nat):=[(0,2199023255552,256),(0,4398046511104,0),(3,8796093022208,6597069766656),(7,0,8796093022464)]
theorem body163:bodyB Tryz.prog 163 = true:=by kernel_rfl
theorem body199:bodyB Tryz.prog 199 = true:=by kernel_rfl
def wardmoteref01_Parts_p (n:Nat) (a0:TLong188) (a1:TLong188):Option (TLong188 × TLong188):=
  (wardmoteref01_parts_p n a0.fD a1.fD).bind fun g0=>(wardmoteref01_made_p n (!(a0.fc == a1.fc)) g0.1).bind fun b0=>(wardmoteref01_made_p n a0.fc g0.2).bind fun c0=>(if c0.fc = true then (wardmoteref01_Plus_p n c0 (⟨false,a1.fD⟩:TLong188)).bind fun d0=>(if a1.fc = true then (wardmoteref01_Long1_p n (1:Int)).bind fun j0=>(wardmoteref01_Plus_p n b0 j0).bind fun k0=>some (k0,d0) else (wardmoteref01_Long1_p n (1:Int)).bind fun p0=>(wardmoteref01_Minus_p n b0 p0).bind fun q0=>some (q0,d0)) else some (b0,c0))
theorem wardmoteref01_Parts_c (n:Nat) (L:List Nat) (w:World) (hL:∀ b ∈ L,b < w.heap.size) (a0:TLong188) {v0_1:Value} (h0_1:Rep.R w L [v0_1] a0.fD) (a1:TLong188) {v1_1:Value} (h1_1:Rep.R w L [v1_1] a1.fD)  {r:TLong188 × TLong188} (h:wardmoteref01_Parts_p n a0 a1 = some r) :
    Calls Tryz.prog 185 #[.agg #[.bool a0.fc,v0_1],.agg #[.bool a1.fc,v1_1]] w (Gives w fun w' u=>∃ v0_1 v1_1:Value,u = .tuple #[.agg #[.bool r.1.fc,v0_1],.agg #[.bool r.2.fc,v1_1]]∧Rep.R w' L [v0_1] r.1.fD∧Rep.R w' L [v1_1] r.2.fD):=by
 unfold wardmoteref01_Parts_p at h
 have hS0:=Az w
 refine AC Tryz.func185 rfl rfl rfl (fun _ cs0 hb0=>?_)
 refine Ac<|Am .plain rfl (AB hS0 rfl rfl) (fun K7 U3 X3 s7=>?_)
 refine Am .plain rfl (AB X3 rfl rfl) (fun M7 Y0 Y3 t7=>?_)
 refine Am .plain rfl (Ay [.bool false,vN] Y3) (fun W7 q0 g4 v7=>?_)
 refine Am .plain rfl (Ay [.bool false,vN] g4) (fun X7 s0 F1 x7=>?_)
 refine Aa<|Ac<|Be 1 rfl<|Ab (AG rfl ((F1.memA (.tl (.tl (.tl .hd)))) 1 _ rfl))<|Be 1 rfl<|AS rfl ((F1.memA (.tl (.tl .hd))) 1 _ rfl) ?_
 obtain ⟨t0,Q6,h⟩:=bi h
 refine Bf (fst:=[]) (cap:=[]) .plain body182 rfl (e2 rfl rfl) (fun w9 hw9=>wardmoteref01_parts_c n _ w9 (F1.hL hL hw9) a0.fD (F1.km h0_1 hw9) a1.fD (F1.km h1_1 hw9) Q6) rfl (fun b7 I7 j5 ⟨B7,C7,hu_,U1,G0⟩=>?_)
 subst hu_
 obtain ⟨z1,y7⟩:=F1.agr j5
 refine Ae rfl<|Ab (Ag rfl rfl)<|Ab (Ag rfl rfl)<|Af rfl<|Af rfl<|Aa<|Ai<|dt 13 tb185_2 (fun b0 d1=>?_)
 refine Ah 0 1 b0 rfl d1 (fun _=>Bl 0 rfl) rfl<|AF 1 3 25680 b0 rfl d1 (AG rfl ((z1.memA (.tl (.tl (.tl .hd)))) 0 _ rfl)) rfl<|Ah 2 7 b0 rfl d1 (fun _=>Bl 0 rfl) rfl<|AF 3 15 25680 b0 rfl d1 (AG rfl ((z1.memA (.tl (.tl .hd))) 0 _ rfl)) rfl<|Ah 4 31 b0 rfl d1 (fun _=>FV.neqB (a:=a0.fc) (b:=a1.fc) Tryz.underlying4 rfl rfl) rfl<|Ah 5 63 b0 rfl d1 (fun _=>Aj rfl) rfl<|Ah 7 191 b0 rfl d1 (fun _=>Bl 0 rfl) rfl<|AF 8 447 25600 b0 rfl d1 (AG rfl ((z1.memA (.tl (.tl (.tl .hd)))) 0 _ rfl)) rfl<|Ah 9 959 b0 rfl d1 (fun _=>Aj rfl) rfl ?_
 obtain ⟨M0,V1,h⟩:=bi h
 obtain ⟨x1,I0,h⟩:=bi h
 refine RD.meet (α:=Value × Value × Nat × Nat) (fun ⟨A0,W0,P0,Q0⟩=>[(3,vP Y0),(4,vP q0),(5,vP s0),(24,.agg #[.bool M0.fc,A0]),(28,.agg #[.bool x1.fc,W0]),(8,vP Q0),(9,vP P0)]) (fun ⟨A0,W0,P0,Q0⟩ b2=>St w b2 [.cells P0 [.bool false,vN] 189,.cells Q0 [.bool false,vN] 189,.cells s0 [.bool false,vN] 189,.cells q0 [.bool false,vN] 189,.cells Y0 [.bool a1.fc,v1_1] 189]∧Tr b7 [.cells s0 [.bool false,vN] 189,.cells q0 [.bool false,vN] 189,.cells Y0 [.bool a1.fc,v1_1] 189,.cells U3 [.bool a0.fc,v0_1] 189] b2 [.cells P0 [.bool false,vN] 189,.cells Q0 [.bool false,vN] 189,.cells s0 [.bool false,vN] 189,.cells q0 [.bool false,vN] 189,.cells Y0 [.bool a1.fc,v1_1] 189]∧Rep.R b2 (bl [.cells P0 [.bool false,vN] 189,.cells Q0 [.bool false,vN] 189,.cells s0 [.bool false,vN] 189,.cells q0 [.bool false,vN] 189,.cells Y0 [.bool a1.fc,v1_1] 189] ++ L) [A0] M0.fD∧Rep.R b2 (bl [.cells P0 [.bool false,vN] 189,.cells Q0 [.bool false,vN] 189,.cells s0 [.bool false,vN] 189,.cells q0 [.bool false,vN] 189,.cells Y0 [.bool a1.fc,v1_1] 189] ++ L) [W0] x1.fD) 2 8191 ?_ ?_
 rintro ⟨A0,W0,P0,Q0⟩ b2 ⟨Z3,u7,I1,t2⟩
 try dsimp only
 refine Bv 13 16383 b0 rfl rfl .plain (Aw (news:=[.bool M0.fc,A0]) Z3 (.tl .hd) rfl rfl rfl rfl rfl rfl (o2 rfl (AX I1))) (fun P7 b4 A1=>?_)
 have p5:=Av t2 A1
 refine Bv 14 32767 b0 rfl rfl .plain (Aw (news:=[.bool x1.fc,W0]) b4 .hd rfl rfl rfl rfl rfl rfl (o2 rfl (AX p5))) (fun X6 B0 G1=>?_)
 refine AM (dk b0)<|Ai<|Ac<|Be 0 rfl<|AS rfl ((B0.memA .hd) 0 _ rfl)<|Aa<|MX.ifb rfl h (fun V3 h=>?_) (fun V3 h=>?_)
 refine Ac<|Ab (AI rfl (B0.memA .hd))<|Be 1 rfl<|Ab (AG rfl ((B0.memA (.tl (.tl (.tl (.tl .hd))))) 1 _ rfl)) ?_
 have q5:=AE h1_1 B0
 obtain ⟨p7,q7,J6,_⟩:=Rep.sl q5
 refine Ab (AN (vs:=[v1_1]) (u:=.agg #[.bool false,v1_1]) (e1 rfl) (fun w9=>by rw [J6]; try kernel_rfl)) ?_
 obtain ⟨j1,K6,h⟩:=bi h
 have s5:=Av t2 (Tt A1 G1)
 refine Bf (fst:=[]) (cap:=[]) .plain body159 rfl (e2 rfl rfl) (fun w9 hw9=>wardmoteref01_Plus_c n _ w9 (B0.hL hL hw9) x1 (Au s5 hw9) (⟨false,a1.fD⟩:TLong188) (B0.km h1_1 hw9) K6) rfl (fun Q7 D7 Z4 ⟨J0,hu_,R1⟩=>?_)
 subst hu_
 obtain ⟨c4,Z2⟩:=B0.agr Z4
 refine AR [.bool j1.fc,J0] c4 .hd (o2 rfl (AX R1)) (fun R7 y1 H1=>?_)
 refine Aa<|Ac<|Be 0 rfl<|Ab (AG rfl ((y1.memA (.tl (.tl (.tl (.tl .hd))))) 0 _ rfl))<|Aa<|MX.ifb rfl h (fun W3 h=>?_) (fun W3 h=>?_)
 refine dt 3 tb185_6 (fun W1 V6=>?_)
 refine AF 0 1 12 W1 rfl V6 (AI rfl (y1.memA (.tl .hd))) rfl ?_
 obtain ⟨j7,M6,h⟩:=bi h
 refine Bu 1 3 W1 rfl .plain body163 rfl (e1 rfl) (fun w9 hw9=>wardmoteref01_Long1_c n _ w9 (y1.hL hL hw9) (1:Int) M6) rfl (fun U7 E7 b5 ⟨z7,hu_,H6⟩=>?_)
 subst hu_
 obtain ⟨X2,z2⟩:=y1.agr b5
 obtain ⟨D1,P6,h⟩:=bi h
 have s6:=Tt A1 (Tt G1 (Tt Z2 (Tt H1 z2)))
 have t5:=Av I1 s6
 refine Bu 2 7 W1 rfl .plain body159 rfl (e2 rfl rfl) (fun w9 hw9=>wardmoteref01_Plus_c n _ w9 (X2.hL hL hw9) M0 (Au t5 hw9) j7 (Au H6 hw9) P6) rfl (fun V7 F7 c5 ⟨s1,hu_,u2⟩=>?_)
 subst hu_
 obtain ⟨d4,b3⟩:=X2.agr c5
 refine Bv 3 15 W1 rfl rfl .plain (Aw (news:=[.bool D1.fc,s1]) d4 (.tl .hd) rfl rfl rfl rfl rfl rfl (o2 rfl (AX u2))) (fun Y6 c2 q2=>?_)
 refine AM (dk W1)<|Ai<|dt 2 tb185_8 (fun k1 P3=>?_)
 refine AF 0 1 12 k1 rfl P3 (AI rfl (c2.memA (.tl .hd))) rfl<|RD.meet (α:=Unit) (fun ()=>[(4,vP q0),(5,vP s0),(45,.agg #[.bool j1.fc,J0])]) (fun () P2=>St w P2 [.cells s0 [.bool false,vN] 189,.cells q0 [.bool D1.fc,s1] 189]∧Tr Y6 [.cells P0 [.bool j1.fc,J0] 189,.cells Q0 [.bool D1.fc,s1] 189,.cells s0 [.bool false,vN] 189,.cells q0 [.bool false,vN] 189,.cells Y0 [.bool a1.fc,v1_1] 189] P2 [.cells s0 [.bool false,vN] 189,.cells q0 [.bool D1.fc,s1] 189]) 1 7 ?_ ?_
 rintro ⟨⟩ P2 ⟨j4,c3⟩
 try dsimp only
 have t6:=Tt H1 (Tt z2 (Tt b3 (Tt q2 c3)))
 have u5:=Av R1 t6
 refine Bv 3 15 k1 rfl rfl .plain (Aw (news:=[.bool j1.fc,J0]) j4 .hd rfl rfl rfl rfl rfl rfl (o2 rfl (AX u5))) (fun Y7 M1 M4=>?_)
 refine AM (dk k1)<|Ak rfl<|Ap hb0 Tryz.func185 rfl (.cons (.many (cs:=[.bool D1.fc,s1]) (by kernel_rfl) rfl (M1.memA (.tl .hd))) (.cons (.many (cs:=[.bool j1.fc,J0]) (by kernel_rfl) rfl (M1.memA .hd)) .nil)) rfl ?_
 cases h
 have A3:=Tt q2 (Tt c3 M4)
 have v5:=Av u2 A3
 have u6:=Tt H1 (Tt z2 (Tt b3 A3))
 have x5:=Av R1 u6
 exact ⟨M1.ag,fun w9 hw9=>⟨s1,J0,rfl,M1.kd v5 hw9,M1.kd x5 hw9⟩⟩
 intro U2
 refine RD.each [1,2] (rk k1) ⟨?_,?_,trivial⟩
 refine RO.val (m' :=3) (sk k1) rfl .plain rfl (AI rfl (c2.memA .hd)) ?_
 have G2:=Av u2 q2
 refine Bv 2 7 k1 rfl rfl .plain (Aw (news:=[.bool D1.fc,s1]) c2 (.tl (.tl (.tl .hd))) rfl rfl rfl rfl rfl rfl (o2 rfl (AX G2))) (fun Z6 d2 A2=>?_)
 obtain ⟨k4,P4⟩:=AH d2 (.one (.tl (.tl .hd)) (.one (.tl (.tl .hd)) .done))
 exact U2 () _ _ ⟨rfl,rfl,rfl,trivial⟩ ⟨k4,(Tt A2 P4)⟩
 have G2:=Av u2 q2
 refine RO.now (m' :=5) (sk k1) rfl rfl .plain (Aw (news:=[.bool D1.fc,s1]) c2 (.tl (.tl (.tl .hd))) rfl rfl rfl rfl rfl rfl (o2 rfl (AX G2))) (fun Z6 d2 A2=>?_)
 refine AF 1 7 8 k1 rfl P3 (AI rfl (d2.memA .hd)) rfl ?_
 obtain ⟨p4,Q4⟩:=AH d2 (.one (.tl (.tl .hd)) (.one (.tl (.tl .hd)) .done))
 exact U2 () _ _ ⟨rfl,rfl,rfl,trivial⟩ ⟨p4,(Tt A2 Q4)⟩
 refine dt 3 tb185_7 (fun X1 W6=>?_)
 refine AF 0 1 12 X1 rfl W6 (AI rfl (y1.memA (.tl .hd))) rfl ?_
 obtain ⟨k7,R6,h⟩:=bi h
 refine Bu 1 3 X1 rfl .plain body163 rfl (e1 rfl) (fun w9 hw9=>wardmoteref01_Long1_c n _ w9 (y1.hL hL hw9) (1:Int) R6) rfl (fun Z7 G7 d5 ⟨A7,hu_,I6⟩=>?_)
 subst hu_
 obtain ⟨Y2,B2⟩:=y1.agr d5
 obtain ⟨E1,U6,h⟩:=bi h
 have v6:=Tt A1 (Tt G1 (Tt Z2 (Tt H1 B2)))
 have y5:=Av I1 v6
 refine Bu 2 7 X1 rfl .plain body199 rfl (e2 rfl rfl) (fun w9 hw9=>wardmoteref01_Minus_c n _ w9 (Y2.hL hL hw9) M0 (Au y5 hw9) k7 (Au I6 hw9) U6) rfl (fun b8 H7 g5 ⟨t1,hu_,v2⟩=>?_)
 subst hu_
 obtain ⟨q4,d3⟩:=Y2.agr g5
 refine Bv 3 15 X1 rfl rfl .plain (Aw (news:=[.bool E1.fc,t1]) q4 (.tl .hd) rfl rfl rfl rfl rfl rfl (o2 rfl (AX v2))) (fun c7 g2 s2=>?_)
 refine AM (dk X1)<|Ai<|dt 2 tb185_8 (fun p1 Q3=>?_)
 refine AF 0 1 12 p1 rfl Q3 (AI rfl (g2.memA (.tl .hd))) rfl<|RD.meet (α:=Unit) (fun ()=>[(4,vP q0),(5,vP s0),(45,.agg #[.bool j1.fc,J0])]) (fun () Q2=>St w Q2 [.cells s0 [.bool false,vN] 189,.cells q0 [.bool E1.fc,t1] 189]∧Tr c7 [.cells P0 [.bool j1.fc,J0] 189,.cells Q0 [.bool E1.fc,t1] 189,.cells s0 [.bool false,vN] 189,.cells q0 [.bool false,vN] 189,.cells Y0 [.bool a1.fc,v1_1] 189] Q2 [.cells s0 [.bool false,vN] 189,.cells q0 [.bool E1.fc,t1] 189]) 1 7 ?_ ?_
 rintro ⟨⟩ Q2 ⟨s4,g3⟩
 try dsimp only
 have x6:=Tt H1 (Tt B2 (Tt d3 (Tt s2 g3)))
 have z5:=Av R1 x6
 refine Bv 3 15 p1 rfl rfl .plain (Aw (news:=[.bool j1.fc,J0]) s4 .hd rfl rfl rfl rfl rfl rfl (o2 rfl (AX z5))) (fun d8 P1 R4=>?_)
 refine AM (dk p1)<|Ak rfl<|Ap hb0 Tryz.func185 rfl (.cons (.many (cs:=[.bool E1.fc,t1]) (by kernel_rfl) rfl (P1.memA (.tl .hd))) (.cons (.many (cs:=[.bool j1.fc,J0]) (by kernel_rfl) rfl (P1.memA .hd)) .nil)) rfl ?_
 cases h
 have B3:=Tt s2 (Tt g3 R4)
 have A5:=Av v2 B3
 have y6:=Tt H1 (Tt B2 (Tt d3 B3))
 have B5:=Av R1 y6
 exact ⟨P1.ag,fun w9 hw9=>⟨t1,J0,rfl,P1.kd A5 hw9,P1.kd B5 hw9⟩⟩
 intro V2
 refine RD.each [1,2] (rk p1) ⟨?_,?_,trivial⟩
 refine RO.val (m' :=3) (sk p1) rfl .plain rfl (AI rfl (g2.memA .hd)) ?_
 have H2:=Av v2 s2
 refine Bv 2 7 p1 rfl rfl .plain (Aw (news:=[.bool E1.fc,t1]) g2 (.tl (.tl (.tl .hd))) rfl rfl rfl rfl rfl rfl (o2 rfl (AX H2))) (fun d7 k2 C2=>?_)
 obtain ⟨t4,U4⟩:=AH k2 (.one (.tl (.tl .hd)) (.one (.tl (.tl .hd)) .done))
 exact V2 () _ _ ⟨rfl,rfl,rfl,trivial⟩ ⟨t4,(Tt C2 U4)⟩
 have H2:=Av v2 s2
 refine RO.now (m' :=5) (sk p1) rfl rfl .plain (Aw (news:=[.bool E1.fc,t1]) g2 (.tl (.tl (.tl .hd))) rfl rfl rfl rfl rfl rfl (o2 rfl (AX H2))) (fun d7 k2 C2=>?_)
 refine AF 1 7 8 p1 rfl Q3 (AI rfl (k2.memA .hd)) rfl ?_
 obtain ⟨u4,V4⟩:=AH k2 (.one (.tl (.tl .hd)) (.one (.tl (.tl .hd)) .done))
 exact V2 () _ _ ⟨rfl,rfl,rfl,trivial⟩ ⟨u4,(Tt C2 V4)⟩
 refine Ao<|Ai<|dt 2 tb185_8 (fun q1 R3=>?_)
 refine AF 0 1 12 q1 rfl R3 (AI rfl (B0.memA (.tl .hd))) rfl<|RD.meet (α:=Unit) (fun ()=>[(4,vP q0),(5,vP s0),(45,.agg #[.bool x1.fc,W0])]) (fun () R2=>St w R2 [.cells s0 [.bool false,vN] 189,.cells q0 [.bool M0.fc,A0] 189]∧Tr X6 [.cells P0 [.bool x1.fc,W0] 189,.cells Q0 [.bool M0.fc,A0] 189,.cells s0 [.bool false,vN] 189,.cells q0 [.bool false,vN] 189,.cells Y0 [.bool a1.fc,v1_1] 189] R2 [.cells s0 [.bool false,vN] 189,.cells q0 [.bool M0.fc,A0] 189]) 1 7 ?_ ?_
 rintro ⟨⟩ R2 ⟨v4,W4⟩
 try dsimp only
 have J2:=Tt A1 (Tt G1 W4)
 have C5:=Av t2 J2
 refine Bv 3 15 q1 rfl rfl .plain (Aw (news:=[.bool x1.fc,W0]) v4 .hd rfl rfl rfl rfl rfl rfl (o2 rfl (AX C5))) (fun g8 Q1 j3=>?_)
 refine AM (dk q1)<|Ak rfl<|Ap hb0 Tryz.func185 rfl (.cons (.many (cs:=[.bool M0.fc,A0]) (by kernel_rfl) rfl (Q1.memA (.tl .hd))) (.cons (.many (cs:=[.bool x1.fc,W0]) (by kernel_rfl) rfl (Q1.memA .hd)) .nil)) rfl ?_
 cases h
 have D5:=Av I1 (Tt J2 j3)
 have E5:=Av t2 (Tt J2 j3)
 exact ⟨Q1.ag,fun w9 hw9=>⟨A0,W0,rfl,Q1.kd D5 hw9,Q1.kd E5 hw9⟩⟩
 intro W2
 refine RD.each [1,2] (rk q1) ⟨?_,?_,trivial⟩
 refine RO.val (m' :=3) (sk q1) rfl .plain rfl (AI rfl (B0.memA .hd)) ?_
 have I2:=Av I1 (Tt A1 G1)
 refine Bv 2 7 q1 rfl rfl .plain (Aw (news:=[.bool M0.fc,A0]) B0 (.tl (.tl (.tl .hd))) rfl rfl rfl rfl rfl rfl (o2 rfl (AX I2))) (fun g7 p2 D2=>?_)
 obtain ⟨x4,X4⟩:=AH p2 (.one (.tl (.tl .hd)) (.one (.tl (.tl .hd)) .done))
 exact W2 () _ _ ⟨rfl,rfl,rfl,trivial⟩ ⟨x4,(Tt D2 X4)⟩
 have I2:=Av I1 (Tt A1 G1)
 refine RO.now (m' :=5) (sk q1) rfl rfl .plain (Aw (news:=[.bool M0.fc,A0]) B0 (.tl (.tl (.tl .hd))) rfl rfl rfl rfl rfl rfl (o2 rfl (AX I2))) (fun g7 p2 D2=>?_)
 refine AF 1 7 8 q1 rfl R3 (AI rfl (p2.memA .hd)) rfl ?_
 obtain ⟨y4,Y4⟩:=AH p2 (.one (.tl (.tl .hd)) (.one (.tl (.tl .hd)) .done))
 exact W2 () _ _ ⟨rfl,rfl,rfl,trivial⟩ ⟨y4,(Tt D2 Y4)⟩
 intro z0
 refine RD.each [6,11,12] (rk b0) ⟨?_,?_,?_,trivial⟩
 refine RO.call (m' :=1023) (fst:=[]) (cap:=[]) (sk b0) rfl .plain body179 rfl (e2 rfl rfl) (fun w9 hw9=>wardmoteref01_made_c n _ w9 (z1.hL hL hw9) (!(a0.fc == a1.fc)) t0.1 (Au U1 hw9) V1) rfl (fun c8 J7 k5 ⟨K1,hu_,J1⟩=>?_)
 subst hu_
 obtain ⟨j2,D0⟩:=z1.agr k5
 refine RD.each [10,11,12] (rk b0) ⟨?_,?_,?_,trivial⟩
 have b1:=Av G0 D0
 refine RO.call (m' :=2047) (fst:=[]) (cap:=[]) (sk b0) rfl .plain body179 rfl (e2 rfl rfl) (fun w9 hw9=>wardmoteref01_made_c n _ w9 (j2.hL hL hw9) a0.fc t0.2 (Au b1 hw9) I0) rfl (fun y2 x2 Z0 ⟨X0,hu_,V0⟩=>?_)
 subst hu_
 obtain ⟨R0,U0⟩:=j2.agr Z0
 refine RD.each [11,12] (rk b0) ⟨?_,?_,trivial⟩
 refine RO.new (m' :=4095) (sk b0) rfl .plain rfl (Ay [.bool false,vN] R0) (fun v1 p0 j0 d0=>?_)
 refine RD.nu 12 8191 b0 rfl .plain rfl (Ay [.bool false,vN] j0) (fun u1 k0 g0 c0=>?_)
 obtain ⟨z4,k3⟩:=AH g0 (.one .hd (.one .hd (.one .hd (.one .hd (.one .hd .done)))))
 have C3:=Tt U0 (Tt d0 (Tt c0 k3))
 have F5:=Av J1 C3
 have z6:=Tt d0 (Tt c0 k3)
 have G5:=Av V0 z6
 exact z0 (K1,X0,k0,p0) _ _ ⟨rfl,rfl,rfl,rfl,rfl,rfl,rfl,trivial⟩ ⟨z4,(Tt D0 C3),F5,G5⟩
 refine RO.new (m' :=6143) (sk b0) rfl .plain rfl (Ay [.bool false,vN] R0) (fun u1 k0 g0 c0=>?_)
 refine RD.nu 11 8191 b0 rfl .plain rfl (Ay [.bool false,vN] g0) (fun v1 p0 j0 d0=>?_)
 obtain ⟨A4,p3⟩:=AH j0 (.one (.tl .hd) (.one .hd (.one .hd (.one .hd (.one .hd .done)))))
 have D3:=Tt U0 (Tt c0 (Tt d0 p3))
 have H5:=Av J1 D3
 have A6:=Tt c0 (Tt d0 p3)
 have I5:=Av V0 A6
 exact z0 (K1,X0,k0,p0) _ _ ⟨rfl,rfl,rfl,rfl,rfl,rfl,rfl,trivial⟩ ⟨A4,(Tt D0 D3),H5,I5⟩
 refine RO.new (m' :=3071) (sk b0) rfl .plain rfl (Ay [.bool false,vN] j2) (fun v1 p0 j0 d0=>?_)
 refine RD.each [10,12] (rk b0) ⟨?_,?_,trivial⟩
 have b1:=Av G0 (Tt D0 d0)
 refine RO.call (m' :=4095) (fst:=[]) (cap:=[]) (sk b0) rfl .plain body179 rfl (e2 rfl rfl) (fun w9 hw9=>wardmoteref01_made_c n _ w9 (j0.hL hL hw9) a0.fc t0.2 (Au b1 hw9) I0) rfl (fun y2 x2 Z0 ⟨X0,hu_,V0⟩=>?_)
 subst hu_
 obtain ⟨R0,U0⟩:=j0.agr Z0
 refine RD.nu 12 8191 b0 rfl .plain rfl (Ay [.bool false,vN] R0) (fun u1 k0 g0 c0=>?_)
 obtain ⟨B4,q3⟩:=AH g0 (.one .hd (.one .hd (.one .hd (.one .hd (.one .hd .done)))))
 have E3:=Tt d0 (Tt U0 (Tt c0 q3))
 have J5:=Av J1 E3
 have K5:=Av V0 (Tt c0 q3)
 exact z0 (K1,X0,k0,p0) _ _ ⟨rfl,rfl,rfl,rfl,rfl,rfl,rfl,trivial⟩ ⟨B4,(Tt D0 E3),J5,K5⟩
 refine RO.new (m' :=7167) (sk b0) rfl .plain rfl (Ay [.bool false,vN] j0) (fun u1 k0 g0 c0=>?_)
 have y0:=Tt D0 (Tt d0 c0)
 have F0:=Av G0 y0
 refine Bu 10 8191 b0 rfl .plain body179 rfl (e2 rfl rfl) (fun w9 hw9=>wardmoteref01_made_c n _ w9 (g0.hL hL hw9) a0.fc t0.2 (Au F0 hw9) I0) rfl (fun Z1 Y1 E0 ⟨K0,hu_,H0⟩=>?_)
 subst hu_
 obtain ⟨C0,x0⟩:=g0.agr E0
 obtain ⟨C4,s3⟩:=AH C0 (.one .hd (.one .hd (.one .hd (.one .hd (.one .hd .done)))))
 have F3:=Tt d0 (Tt c0 (Tt x0 s3))
 have M5:=Av J1 F3
 have P5:=Av H0 s3
 exact z0 (K1,K0,k0,p0) _ _ ⟨rfl,rfl,rfl,rfl,rfl,rfl,rfl,trivial⟩ ⟨C4,(Tt D0 F3),M5,P5⟩
 refine RO.new (m' :=5119) (sk b0) rfl .plain rfl (Ay [.bool false,vN] j2) (fun u1 k0 g0 c0=>?_)
 refine RD.each [10,11] (rk b0) ⟨?_,?_,trivial⟩
 have b1:=Av G0 (Tt D0 c0)
 refine RO.call (m' :=6143) (fst:=[]) (cap:=[]) (sk b0) rfl .plain body179 rfl (e2 rfl rfl) (fun w9 hw9=>wardmoteref01_made_c n _ w9 (g0.hL hL hw9) a0.fc t0.2 (Au b1 hw9) I0) rfl (fun y2 x2 Z0 ⟨X0,hu_,V0⟩=>?_)
 subst hu_
 obtain ⟨R0,U0⟩:=g0.agr Z0
 refine RD.nu 11 8191 b0 rfl .plain rfl (Ay [.bool false,vN] R0) (fun v1 p0 j0 d0=>?_)
 obtain ⟨D4,t3⟩:=AH j0 (.one (.tl .hd) (.one .hd (.one .hd (.one .hd (.one .hd .done)))))
 have G3:=Tt c0 (Tt U0 (Tt d0 t3))
 have Q5:=Av J1 G3
 have R5:=Av V0 (Tt d0 t3)
 exact z0 (K1,X0,k0,p0) _ _ ⟨rfl,rfl,rfl,rfl,rfl,rfl,rfl,trivial⟩ ⟨D4,(Tt D0 G3),Q5,R5⟩
 refine RO.new (m' :=7167) (sk b0) rfl .plain rfl (Ay [.bool false,vN] g0) (fun v1 p0 j0 d0=>?_)
 have y0:=Tt D0 (Tt c0 d0)
 have F0:=Av G0 y0
 refine Bu 10 8191 b0 rfl .plain body179 rfl (e2 rfl rfl) (fun w9 hw9=>wardmoteref01_made_c n _ w9 (j0.hL hL hw9) a0.fc t0.2 (Au F0 hw9) I0) rfl (fun Z1 Y1 E0 ⟨K0,hu_,H0⟩=>?_)
 subst hu_
 obtain ⟨C0,x0⟩:=j0.agr E0
 obtain ⟨E4,u3⟩:=AH C0 (.one (.tl .hd) (.one .hd (.one .hd (.one .hd (.one .hd .done)))))
 have H3:=Tt c0 (Tt d0 (Tt x0 u3))
 have U5:=Av J1 H3
 have V5:=Av H0 u3
 exact z0 (K1,K0,k0,p0) _ _ ⟨rfl,rfl,rfl,rfl,rfl,rfl,rfl,trivial⟩ ⟨E4,(Tt D0 H3),U5,V5⟩
 refine RO.new (m' :=3007) (sk b0) rfl .plain rfl (Ay [.bool false,vN] z1) (fun v1 p0 j0 d0=>?_)
 refine RD.each [6,12] (rk b0) ⟨?_,?_,trivial⟩
 have C1:=Av U1 d0
 refine RO.call (m' :=3071) (fst:=[]) (cap:=[]) (sk b0) rfl .plain body179 rfl (e2 rfl rfl) (fun w9 hw9=>wardmoteref01_made_c n _ w9 (j0.hL hL hw9) (!(a0.fc == a1.fc)) t0.1 (Au C1 hw9) V1) rfl (fun M2 K2 B1 ⟨g1,hu_,c1⟩=>?_)
 subst hu_
 obtain ⟨u0,v0⟩:=j0.agr B1
 refine RD.each [10,12] (rk b0) ⟨?_,?_,trivial⟩
 have b1:=Av G0 (Tt d0 v0)
 refine RO.call (m' :=4095) (fst:=[]) (cap:=[]) (sk b0) rfl .plain body179 rfl (e2 rfl rfl) (fun w9 hw9=>wardmoteref01_made_c n _ w9 (u0.hL hL hw9) a0.fc t0.2 (Au b1 hw9) I0) rfl (fun y2 x2 Z0 ⟨X0,hu_,V0⟩=>?_)
 subst hu_
 obtain ⟨R0,U0⟩:=u0.agr Z0
 refine RD.nu 12 8191 b0 rfl .plain rfl (Ay [.bool false,vN] R0) (fun u1 k0 g0 c0=>?_)
 obtain ⟨F4,v3⟩:=AH g0 (.one .hd (.one .hd (.one .hd (.one .hd (.one .hd .done)))))
 have I3:=Tt U0 (Tt c0 v3)
 have W5:=Av c1 I3
 have X5:=Av V0 (Tt c0 v3)
 have B6:=Tt d0 (Tt v0 I3)
 exact z0 (g1,X0,k0,p0) _ _ ⟨rfl,rfl,rfl,rfl,rfl,rfl,rfl,trivial⟩ ⟨F4,B6,W5,X5⟩
 refine RO.new (m' :=7167) (sk b0) rfl .plain rfl (Ay [.bool false,vN] u0) (fun u1 k0 g0 c0=>?_)
 have y0:=Tt d0 (Tt v0 c0)
 have F0:=Av G0 y0
 refine Bu 10 8191 b0 rfl .plain body179 rfl (e2 rfl rfl) (fun w9 hw9=>wardmoteref01_made_c n _ w9 (g0.hL hL hw9) a0.fc t0.2 (Au F0 hw9) I0) rfl (fun Z1 Y1 E0 ⟨K0,hu_,H0⟩=>?_)
 subst hu_
 obtain ⟨C0,x0⟩:=g0.agr E0
 obtain ⟨G4,x3⟩:=AH C0 (.one .hd (.one .hd (.one .hd (.one .hd (.one .hd .done)))))
 have J3:=Tt c0 (Tt x0 x3)
 have Y5:=Av c1 J3
 have Z5:=Av H0 x3
 have C6:=Tt d0 (Tt v0 J3)
 exact z0 (g1,K0,k0,p0) _ _ ⟨rfl,rfl,rfl,rfl,rfl,rfl,rfl,trivial⟩ ⟨G4,C6,Y5,Z5⟩
 refine RO.new (m' :=7103) (sk b0) rfl .plain rfl (Ay [.bool false,vN] j0) (fun u1 k0 g0 c0=>?_)
 have C1:=Av U1 (Tt d0 c0)
 refine Bu 6 7167 b0 rfl .plain body179 rfl (e2 rfl rfl) (fun w9 hw9=>wardmoteref01_made_c n _ w9 (g0.hL hL hw9) (!(a0.fc == a1.fc)) t0.1 (Au C1 hw9) V1) rfl (fun M2 K2 B1 ⟨g1,hu_,c1⟩=>?_)
 subst hu_
 obtain ⟨u0,v0⟩:=g0.agr B1
 have y0:=Tt d0 (Tt c0 v0)
 have F0:=Av G0 y0
 refine Bu 10 8191 b0 rfl .plain body179 rfl (e2 rfl rfl) (fun w9 hw9=>wardmoteref01_made_c n _ w9 (u0.hL hL hw9) a0.fc t0.2 (Au F0 hw9) I0) rfl (fun Z1 Y1 E0 ⟨K0,hu_,H0⟩=>?_)
 subst hu_
 obtain ⟨C0,x0⟩:=u0.agr E0
 obtain ⟨H4,E2⟩:=AH C0 (.one .hd (.one .hd (.one .hd (.one .hd (.one .hd .done)))))
 have b6:=Av c1 (Tt x0 E2)
 have c6:=Av H0 E2
 have D6:=Tt y0 (Tt x0 E2)
 exact z0 (g1,K0,k0,p0) _ _ ⟨rfl,rfl,rfl,rfl,rfl,rfl,rfl,trivial⟩ ⟨H4,D6,b6,c6⟩
 refine RO.new (m' :=5055) (sk b0) rfl .plain rfl (Ay [.bool false,vN] z1) (fun u1 k0 g0 c0=>?_)
 refine RD.each [6,11] (rk b0) ⟨?_,?_,trivial⟩
 have C1:=Av U1 c0
 refine RO.call (m' :=5119) (fst:=[]) (cap:=[]) (sk b0) rfl .plain body179 rfl (e2 rfl rfl) (fun w9 hw9=>wardmoteref01_made_c n _ w9 (g0.hL hL hw9) (!(a0.fc == a1.fc)) t0.1 (Au C1 hw9) V1) rfl (fun M2 K2 B1 ⟨g1,hu_,c1⟩=>?_)
 subst hu_
 obtain ⟨u0,v0⟩:=g0.agr B1
 refine RD.each [10,11] (rk b0) ⟨?_,?_,trivial⟩
 have b1:=Av G0 (Tt c0 v0)
 refine RO.call (m' :=6143) (fst:=[]) (cap:=[]) (sk b0) rfl .plain body179 rfl (e2 rfl rfl) (fun w9 hw9=>wardmoteref01_made_c n _ w9 (u0.hL hL hw9) a0.fc t0.2 (Au b1 hw9) I0) rfl (fun y2 x2 Z0 ⟨X0,hu_,V0⟩=>?_)
 subst hu_
 obtain ⟨R0,U0⟩:=u0.agr Z0
 refine RD.nu 11 8191 b0 rfl .plain rfl (Ay [.bool false,vN] R0) (fun v1 p0 j0 d0=>?_)
 obtain ⟨I4,y3⟩:=AH j0 (.one (.tl .hd) (.one .hd (.one .hd (.one .hd (.one .hd .done)))))
 have K3:=Tt U0 (Tt d0 y3)
 have d6:=Av c1 K3
 have g6:=Av V0 (Tt d0 y3)
 have E6:=Tt c0 (Tt v0 K3)
 exact z0 (g1,X0,k0,p0) _ _ ⟨rfl,rfl,rfl,rfl,rfl,rfl,rfl,trivial⟩ ⟨I4,E6,d6,g6⟩
 refine RO.new (m' :=7167) (sk b0) rfl .plain rfl (Ay [.bool false,vN] u0) (fun v1 p0 j0 d0=>?_)
 have y0:=Tt c0 (Tt v0 d0)
 have F0:=Av G0 y0
 refine Bu 10 8191 b0 rfl .plain body179 rfl (e2 rfl rfl) (fun w9 hw9=>wardmoteref01_made_c n _ w9 (j0.hL hL hw9) a0.fc t0.2 (Au F0 hw9) I0) rfl (fun Z1 Y1 E0 ⟨K0,hu_,H0⟩=>?_)
 subst hu_
 obtain ⟨C0,x0⟩:=j0.agr E0
 obtain ⟨J4,z3⟩:=AH C0 (.one (.tl .hd) (.one .hd (.one .hd (.one .hd (.one .hd .done)))))
 have M3:=Tt d0 (Tt x0 z3)
 have j6:=Av c1 M3
 have k6:=Av H0 z3
 have F6:=Tt c0 (Tt v0 M3)
 exact z0 (g1,K0,k0,p0) _ _ ⟨rfl,rfl,rfl,rfl,rfl,rfl,rfl,trivial⟩ ⟨J4,F6,j6,k6⟩
 refine RO.new (m' :=7103) (sk b0) rfl .plain rfl (Ay [.bool false,vN] g0) (fun v1 p0 j0 d0=>?_)
 have C1:=Av U1 (Tt c0 d0)
 refine Bu 6 7167 b0 rfl .plain body179 rfl (e2 rfl rfl) (fun w9 hw9=>wardmoteref01_made_c n _ w9 (j0.hL hL hw9) (!(a0.fc == a1.fc)) t0.1 (Au C1 hw9) V1) rfl (fun M2 K2 B1 ⟨g1,hu_,c1⟩=>?_)
 subst hu_
 obtain ⟨u0,v0⟩:=j0.agr B1
 have y0:=Tt c0 (Tt d0 v0)
 have F0:=Av G0 y0
 refine Bu 10 8191 b0 rfl .plain body179 rfl (e2 rfl rfl) (fun w9 hw9=>wardmoteref01_made_c n _ w9 (u0.hL hL hw9) a0.fc t0.2 (Au F0 hw9) I0) rfl (fun Z1 Y1 E0 ⟨K0,hu_,H0⟩=>?_)
 subst hu_
 obtain ⟨C0,x0⟩:=u0.agr E0
 obtain ⟨K4,F2⟩:=AH C0 (.one (.tl .hd) (.one .hd (.one .hd (.one .hd (.one .hd .done)))))
 have p6:=Av c1 (Tt x0 F2)
 have q6:=Av H0 F2
 have G6:=Tt y0 (Tt x0 F2)
 exact z0 (g1,K0,k0,p0) _ _ ⟨rfl,rfl,rfl,rfl,rfl,rfl,rfl,trivial⟩ ⟨K4,G6,p6,q6⟩
theorem body155:bodyB Tryz.prog 155 = true:=by kernel_rfl
theorem body185:bodyB Tryz.prog 185 = true:=by kernel_rfl
def wardmoteref02_Lowest_p (n:Nat) (a0:TLong188) (a1:TLong188):Option TRatio190:=
  (wardmoteref01_Divisor_p n a0 a1).bind fun b0=>jn (fun (d0,g0)=>(wardmoteref01_Parts_p n a0 (⟨d0,g0⟩:TLong188)).bind fun k0=>(wardmoteref01_Parts_p n a1 (⟨d0,g0⟩:TLong188)).bind fun p0=>some (⟨k0.1,p0.1⟩:TRatio190)) (fun c0=>(if a1.fc = true then (wardmoteref01_Turn_p n b0).bind fun j0=>c0 (j0.fc,j0.fD) else c0 (b0.fc,b0.fD)))
theorem wardmoteref02_Lowest_c (n:Nat) (L:List Nat) (w:World) (hL:∀ b ∈ L,b < w.heap.size) (a0:TLong188) {v0_1:Value} (h0_1:Rep.R w L [v0_1] a0.fD) (a1:TLong188) {v1_1:Value} (h1_1:Rep.R w L [v1_1] a1.fD)  {r:TRatio190} (h:wardmoteref02_Lowest_p n a0 a1 = some r) :
    Calls Tryz.prog 157 #[.agg #[.bool a0.fc,v0_1],.agg #[.bool a1.fc,v1_1]] w (Gives w fun w' u=>∃ v0_1 v0_3:Value,u = .agg #[.bool r.fN.fc,v0_1,.bool r.fD.fc,v0_3]∧Rep.R w' L [v0_1] r.fN.fD∧Rep.R w' L [v0_3] r.fD.fD):=by
 unfold wardmoteref02_Lowest_p at h
 have hS0:=Az w
 refine AC Tryz.func157 rfl rfl rfl (fun _ cs0 hb0=>?_)
 refine Ac<|Am .plain rfl (AB hS0 rfl rfl) (fun d3 s0 y1 Q2=>?_)
 refine Am .plain rfl (AB y1 rfl rfl) (fun t3 t0 B1 R2=>?_)
 refine Am .plain rfl (Ay [.bool false,vN,.bool false,vN] B1) (fun u3 u0 g0 U2=>?_)
 refine Aa<|Ac<|Ab (AI rfl (g0.memA (.tl (.tl .hd))))<|Ab (AI rfl (g0.memA (.tl .hd))) ?_
 obtain ⟨A0,y2,h⟩:=bi h
 refine Bf (fst:=[]) (cap:=[]) .plain body155 rfl (e2 rfl rfl) (fun w9 hw9=>wardmoteref01_Divisor_c n _ w9 (g0.hL hL hw9) a0 (g0.km h0_1 hw9) a1 (g0.km h1_1 hw9) y2) rfl (fun v3 Y2 Q1 ⟨R0,hu_,P0⟩=>?_)
 subst hu_
 obtain ⟨C1,V2⟩:=g0.agr Q1
 refine Am .plain rfl (Ay [.bool false,vN] C1) (fun x3 v0 D1 H0=>?_)
 have d2:=Av P0 H0
 refine AR [.bool A0.fc,R0] D1 .hd (o2 rfl (AX d2)) (fun D2 x0 Z0=>?_)
 refine Aa<|Ai<|Ac<|Be 0 rfl<|AS rfl ((x0.memA (.tl (.tl .hd))) 0 _ rfl)<|Aa<|MX.join (α:=Bool × (List Int) × Value) (fun ⟨b0,d0,c0⟩=>[(2,vP s0),(3,vP t0),(4,vP u0),(5,vP v0)]) (fun ⟨b0,d0,c0⟩ C0=>St w C0 [.cells v0 [.bool b0,c0] 189,.cells u0 [.bool false,vN,.bool false,vN] 191,.cells t0 [.bool a1.fc,v1_1] 189,.cells s0 [.bool a0.fc,v0_1] 189]∧Tr D2 [.cells v0 [.bool A0.fc,R0] 189,.cells u0 [.bool false,vN,.bool false,vN] 191,.cells t0 [.bool a1.fc,v1_1] 189,.cells s0 [.bool a0.fc,v0_1] 189] C0 [.cells v0 [.bool b0,c0] 189,.cells u0 [.bool false,vN,.bool false,vN] 191,.cells t0 [.bool a1.fc,v1_1] 189,.cells s0 [.bool a0.fc,v0_1] 189]∧Rep.R C0 (bl [.cells v0 [.bool b0,c0] 189,.cells u0 [.bool false,vN,.bool false,vN] 191,.cells t0 [.bool a1.fc,v1_1] 189,.cells s0 [.bool a0.fc,v0_1] 189] ++ L) [c0] d0) (fun ⟨b0,d0,c0⟩=>(b0,d0)) h ?_ ?_
 rintro ⟨b0,d0,c0⟩ C0 ⟨y0,W2,q1⟩ h
 try dsimp only at h
 refine Ac<|Ab (AI rfl (y0.memA (.tl (.tl (.tl .hd)))))<|Ab (AI rfl (y0.memA .hd)) ?_
 obtain ⟨p0,z2,h⟩:=bi h
 refine Bf (fst:=[]) (cap:=[]) .plain body185 rfl (e2 rfl rfl) (fun w9 hw9=>wardmoteref01_Parts_c n _ w9 (y0.hL hL hw9) a0 (y0.km h0_1 hw9) (⟨b0,d0⟩:TLong188) (Au q1 hw9) z2) rfl (fun y3 Z2 R1 ⟨k0,C2,hu_,Q0,t2⟩=>?_)
 subst hu_
 obtain ⟨E1,M1⟩:=y0.agr R1
 refine Ae rfl<|Ab (Ag rfl rfl)<|Ab (Ag rfl rfl)<|Am .plain rfl (Ay [.bool false,vN] E1) (fun z3 J2 F1 I0=>?_)
 refine Am .plain rfl (Ay [.bool false,vN] F1) (fun A3 K2 G1 J0=>?_)
 have g2:=Av Q0 (Tt I0 J0)
 refine AR [.bool p0.1.fc,k0] G1 (.tl .hd) (o2 rfl (AX g2)) (fun B3 H1 b1=>?_)
 have k1:=Tt I0 (Tt J0 b1)
 have j2:=Av t2 k1
 refine AR [.bool p0.2.fc,C2] H1 .hd (o2 rfl (AX j2)) (fun C3 z0 c1=>?_)
 refine Aa<|Ac<|Ab (AI rfl (z0.memA (.tl (.tl (.tl (.tl .hd))))))<|Ab (AI rfl (z0.memA (.tl (.tl .hd)))) ?_
 obtain ⟨q0,A2,h⟩:=bi h
 have q2:=Tt M1 (Tt I0 (Tt J0 (Tt b1 c1)))
 have k2:=Av q1 q2
 refine Bf (fst:=[]) (cap:=[]) .plain body185 rfl (e2 rfl rfl) (fun w9 hw9=>wardmoteref01_Parts_c n _ w9 (z0.hL hL hw9) a1 (z0.km h1_1 hw9) (⟨b0,d0⟩:TLong188) (Au k2 hw9) A2) rfl (fun D3 b3 U1 ⟨j0,B2,hu_,M0,s2⟩=>?_)
 subst hu_
 obtain ⟨I1,J1⟩:=z0.agr U1
 refine Ae rfl<|Ab (Ag rfl rfl)<|Ab (Ag rfl rfl)<|Am .plain rfl (Ay [.bool false,vN] I1) (fun c3 H2 u1 E0=>?_)
 refine Am .plain rfl (Ay [.bool false,vN] u1) (fun g3 I2 v1 F0=>?_)
 have V1:=Av M0 (Tt E0 F0)
 refine AR [.bool q0.1.fc,j0] v1 (.tl .hd) (o2 rfl (AX V1)) (fun j3 x1 W0=>?_)
 have K0:=Tt E0 (Tt F0 W0)
 have W1:=Av s2 K0
 refine AR [.bool q0.2.fc,B2] x1 .hd (o2 rfl (AX W1)) (fun k3 D0 G0=>?_)
 refine Aa<|Ac<|Ab (AI rfl (D0.memA (.tl (.tl (.tl .hd)))))<|Ab (AI rfl (D0.memA (.tl .hd))) ?_
 have j1:=Tt k1 (Tt c1 (Tt J1 (Tt E0 (Tt F0 (Tt W0 G0)))))
 have d1:=Av Q0 j1
 obtain ⟨E2,M2,u2,_⟩:=Rep.sl d1
 have g1:=Av M0 (Tt K0 G0)
 obtain ⟨F2,P2,v2,_⟩:=Rep.sl g1
 refine Ab (AN (vs:=[.agg #[.bool p0.1.fc,k0],.agg #[.bool q0.1.fc,j0]]) (u:=.agg #[.bool p0.1.fc,k0,.bool q0.1.fc,j0]) (e2 rfl rfl) (fun w9=>by rw [u2,v2]; try kernel_rfl))<|AR [.bool p0.1.fc,k0,.bool q0.1.fc,j0] D0 (.tl (.tl (.tl (.tl (.tl .hd))))) (o4 rfl (AX d1) rfl (AX g1)) (fun p3 B0 X0=>?_)
 refine Aa<|Ak rfl<|Ap hb0 Tryz.func157 rfl (.cons (.many (cs:=[.bool p0.1.fc,k0,.bool q0.1.fc,j0]) (by kernel_rfl) rfl (B0.memA (.tl (.tl (.tl (.tl (.tl .hd))))))) .nil) rfl ?_
 cases h
 have X1:=Av Q0 (Tt j1 X0)
 have p2:=Tt K0 (Tt G0 X0)
 have Y1:=Av M0 p2
 exact ⟨B0.ag,fun w9 hw9=>⟨k0,j0,rfl,B0.kd X1 hw9,B0.kd Y1 hw9⟩⟩
 intro G2 V0 h
 try dsimp only at h
 refine MX.ifb rfl h (fun t1 h=>?_) (fun t1 h=>?_)
 refine Al<|Ab (AI rfl (x0.memA .hd)) ?_
 obtain ⟨U0,x2,h⟩:=bi h
 have Z1:=Av P0 (Tt H0 Z0)
 refine Bf (fst:=[]) (cap:=[]) .plain body184 rfl (e1 rfl) (fun w9 hw9=>wardmoteref01_Turn_c n _ w9 (x0.hL hL hw9) A0 (Au Z1 hw9) x2) rfl (fun q3 X2 P1 ⟨s1,hu_,p1⟩=>?_)
 subst hu_
 obtain ⟨z1,K1⟩:=x0.agr P1
 refine AR [.bool U0.fc,s1] z1 .hd (o2 rfl (AX p1)) (fun s3 A1 Y0=>?_)
 refine Aa ?_
 have b2:=Av p1 Y0
 exact V0 (U0.fc,U0.fD,s1) _ _ ⟨rfl,rfl,rfl,rfl,trivial⟩ ⟨A1,(Tt K1 Y0),b2⟩ h
 refine Ao ?_
 have c2:=Av P0 (Tt H0 Z0)
 exact V0 (A0.fc,A0.fD,R0) _ _ ⟨rfl,rfl,rfl,rfl,trivial⟩ ⟨x0,AQ _ _,c2⟩ h
theorem body157:bodyB Tryz.prog 157 = true:=by kernel_rfl
def wardmoteref02_Quick_p (n:Nat) (a0:Int) (a1:Int):Option TRatio190:=
  (wardmoteref01_Long1_p n a0).bind fun b0=>(wardmoteref01_Long1_p n a1).bind fun c0=>(wardmoteref02_Lowest_p n b0 c0).bind fun d0=>some d0
theorem wardmoteref02_Quick_c (n:Nat) (L:List Nat) (w:World) (hL:∀ b ∈ L,b < w.heap.size) (a0:Int) (a1:Int)  {r:TRatio190} (h:wardmoteref02_Quick_p n a0 a1 = some r) :
    Calls Tryz.prog 127 #[vI a0,vI a1] w (Gives w fun w' u=>∃ v0_1 v0_3:Value,u = .agg #[.bool r.fN.fc,v0_1,.bool r.fD.fc,v0_3]∧Rep.R w' L [v0_1] r.fN.fD∧Rep.R w' L [v0_3] r.fD.fD):=by
 unfold wardmoteref02_Quick_p at h
 have hS0:=Az w
 refine AC Tryz.func127 rfl rfl rfl (fun _ cs0 hb0=>?_)
 refine Ac<|Am .plain rfl (Ay [.bool false,vN,.bool false,vN] hS0) (fun Y0 K0 j0 M0=>?_)
 refine Aa<|Ac<|Ae rfl ?_
 obtain ⟨I0,F0,h⟩:=bi h
 refine Bf (fst:=[]) (cap:=[]) .plain body163 rfl (e1 rfl) (fun w9 hw9=>wardmoteref01_Long1_c n _ w9 (j0.hL hL hw9) a0 F0) rfl (fun Z0 V0 x0 ⟨R0,hu_,D0⟩=>?_)
 subst hu_
 obtain ⟨k0,P0⟩:=j0.agr x0
 refine Ae rfl ?_
 obtain ⟨J0,G0,h⟩:=bi h
 refine Bf (fst:=[]) (cap:=[]) .plain body163 rfl (e1 rfl) (fun w9 hw9=>wardmoteref01_Long1_c n _ w9 (k0.hL hL hw9) a1 G0) rfl (fun b1 W0 y0 ⟨U0,hu_,E0⟩=>?_)
 subst hu_
 obtain ⟨p0,v0⟩:=k0.agr y0
 obtain ⟨c0,H0,h⟩:=bi h
 have A0:=Av D0 v0
 refine Bf (fst:=[]) (cap:=[]) .plain body157 rfl (e2 rfl rfl) (fun w9 hw9=>wardmoteref02_Lowest_c n _ w9 (p0.hL hL hw9) I0 (Au A0 hw9) J0 (Au E0 hw9) H0) rfl (fun c1 X0 z0 ⟨d0,g0,hu_,s0,t0⟩=>?_)
 subst hu_
 obtain ⟨u0,Q0⟩:=p0.agr z0
 refine AR [.bool c0.fN.fc,d0,.bool c0.fD.fc,g0] u0 .hd (o4 rfl (AX s0) rfl (AX t0)) (fun d1 b0 q0=>?_)
 refine Aa<|Ak rfl<|Ap hb0 Tryz.func127 rfl (.cons (.many (cs:=[.bool c0.fN.fc,d0,.bool c0.fD.fc,g0]) (by kernel_rfl) rfl (b0.memA .hd)) .nil) rfl ?_
 cases h
 have B0:=Av s0 q0
 have C0:=Av t0 q0
 exact ⟨b0.ag,fun w9 hw9=>⟨d0,g0,rfl,b0.kd B0 hw9,b0.kd C0 hw9⟩⟩
theorem body115:bodyB Tryz.prog 115 = true:=by kernel_rfl
theorem body127:bodyB Tryz.prog 127 = true:=by kernel_rfl
def wardmoteref02_Of_p (n:Nat) (a0:Int) (a1:Int):Option (TShare × Int):=
  (if a1 = 0 then some ((⟨((0:UInt64),(0:UInt64),(0:UInt64),(0:UInt64),(0:UInt64),(0:UInt64),(0:UInt64),(0:UInt64)),((0:UInt64),(0:UInt64),(0:UInt64),(0:UInt64),(0:UInt64),(0:UInt64),(0:UInt64),(0:UInt64))⟩:TShare),(7:Int)) else (wardmoteref02_Quick_p n a0 a1).bind fun c0=>(wardmoteref02_Out_p n c0).bind fun b0=>some (b0.1,b0.2))
theorem wardmoteref02_Of_c (n:Nat) (L:List Nat) (w:World) (hL:∀ b ∈ L,b < w.heap.size) (a0:Int) (a1:Int)  {r:TShare × Int} (h:wardmoteref02_Of_p n a0 a1 = some r) :
    Calls Tryz.prog 89 #[vI a0,vI a1] w (Gives w fun _ u=>u = .tuple #[.agg ((cs_TShare r.1)).toArray,vI r.2]):=by
 unfold wardmoteref02_Of_p at h
 have hS0:=Az w
 refine AC Tryz.func89 rfl rfl rfl (fun _ cs0 hb0=>?_)
 refine Ac<|Am .plain rfl (Ay zL hS0) (fun F0 x0 d0 y0=>?_)
 refine Af rfl<|Aa<|Ai<|Ac<|Ae rfl<|Ab (FV.eql (i:=a1) (j:=0) rfl rfl)<|Aa<|AK rfl h (fun k0 h=>?_) (fun k0 h=>?_)
 refine Ac<|Ab (AN (vs:=[]) (u:=.agg zM) evs_nil (fun w9=>by kernel_rfl))<|AR zL d0 .hd (onesB rfl) (fun G0 g0 z0=>?_)
 refine Af rfl<|Aa<|Ak rfl<|Ap hb0 Tryz.func89 rfl (.cons (.many (cs:=zL) (by kernel_rfl) rfl (g0.memA .hd)) (.cons (.tmp rfl) .nil)) rfl ?_
 cases h
 exact g0.gv
 refine Ao<|Ac<|Ae rfl<|Ae rfl ?_
 obtain ⟨v0,t0,h⟩:=bi h
 refine Bf (fst:=[]) (cap:=[]) .plain body127 rfl (e2 rfl rfl) (fun w9 hw9=>wardmoteref02_Quick_c n _ w9 (d0.hL hL hw9) a0 a1 t0) rfl (fun H0 E0 p0 ⟨C0,D0,hu_,q0,s0⟩=>?_)
 subst hu_
 obtain ⟨b0,A0⟩:=d0.agr p0
 obtain ⟨c0,u0,h⟩:=bi h
 refine Bb (.tuple #[.agg ((cs_TShare c0.1)).toArray,vI c0.2]) body115 rfl (e1 rfl) (fun w9 hw9=>wardmoteref02_Out_c n _ w9 (b0.hL0 hL hw9) v0 (b0.kd q0 hw9) (b0.kd s0 hw9) u0) rfl<|Ab (Ag rfl rfl)<|Ab (Ag rfl rfl)<|AR (cs_TShare c0.1) b0 .hd (onesB rfl) (fun I0 j0 B0=>?_)
 refine Af rfl<|Aa<|Ak rfl<|Ap hb0 Tryz.func89 rfl (.cons (.many (cs:=(cs_TShare c0.1)) (by kernel_rfl) rfl (j0.memA .hd)) (.cons (.tmp rfl) .nil)) rfl ?_
 cases h
 exact j0.gv
theorem body89:bodyB Tryz.prog 89 = true:=by kernel_rfl
def wardmoteref22_Of_p (n:Nat) (a0:Int) (a1:Int):Option TShare:=
  (wardmoteref02_Of_p n a0 a1).bind fun b0=>some b0.1
theorem wardmoteref22_Of_c (n:Nat) (L:List Nat) (w:World) (hL:∀ b ∈ L,b < w.heap.size) (a0:Int) (a1:Int)  {r:TShare} (h:wardmoteref22_Of_p n a0 a1 = some r) :
    Calls Tryz.prog 47 #[vI a0,vI a1] w (Gives w fun _ u=>u = .agg ((cs_TShare r)).toArray):=by
 unfold wardmoteref22_Of_p at h
 have hS0:=Az w
 refine AC Tryz.func47 rfl rfl rfl (fun _ cs0 hb0=>?_)
 refine Ac<|Am .plain rfl (Ay zL hS0) (fun x0 p0 c0 s0=>?_)
 refine Aa<|Ac<|Ae rfl<|Ae rfl ?_
 obtain ⟨b0,k0,h⟩:=bi h
 refine Bb (.tuple #[.agg ((cs_TShare b0.1)).toArray,vI b0.2]) body89 rfl (e2 rfl rfl) (fun w9 hw9=>wardmoteref02_Of_c n _ w9 (c0.hL0 hL hw9) a0 a1 k0) rfl<|Ae rfl<|Ab (Ag rfl rfl)<|Ab (Ag rfl rfl)<|Am .plain rfl (Ay zL c0) (fun y0 q0 j0 t0=>?_)
 refine AR (cs_TShare b0.1) j0 .hd (onesB rfl) (fun z0 d0 u0=>?_)
 refine Af rfl<|Aa<|Ac<|Ab (AI rfl (d0.memA .hd))<|AR (cs_TShare b0.1) d0 (.tl .hd) (onesB rfl) (fun A0 g0 v0=>?_)
 refine Aa<|Ak rfl<|Ap hb0 Tryz.func47 rfl (.cons (.many (cs:=(cs_TShare b0.1)) (by kernel_rfl) rfl (g0.memA (.tl .hd))) .nil) rfl ?_
 cases h
 exact g0.gv
def wardmoteref27_count_l1 (n:Nat) (a0:UInt64) (a2:Bool) (a1:TRoll) (d0:Int × Nat → Option Int):Int × Nat → Option Int
  | (c0,b0)=>(if b0 < 64 then (wardmoteref27_has_p n a0 ((b0:Nat):Int)).bind fun p0=>(if p0 = true then (if a2 = true then (a1.fm[b0]?).bind fun k0=>(chk (c0 + k0.fy)).bind fun g0=>d0 (g0,b0 + 1) else (chk (c0 + 1)).bind fun j0=>d0 (j0,b0 + 1)) else d0 (c0,b0 + 1)) else some c0)
def wardmoteref27_count_p (n:Nat) (a0:UInt64) (a1:TRoll) (a2:Bool):Option Int:=
  Option.bind (loopF (wardmoteref27_count_l1 n a0 a2 a1) n (0,0)) (fun b0=>some b0)
theorem wardmoteref27_count_c (n:Nat) (L:List Nat) (w:World) (hL:∀ b ∈ L,b < w.heap.size) (a0:UInt64) (a1:TRoll) {v1_3:Value} (h1_3:Rep.R w L [v1_3] a1.fm) (a2:Bool)  {r:Int} (h:wardmoteref27_count_p n a0 a1 a2 = some r) :
    Calls Tryz.prog 90 #[vU a0,.agg #[vI a1.fj,vI a1.fe,vI a1.fh,v1_3],.bool a2] w (Gives w fun _ u=>u = vI r):=by
 unfold wardmoteref27_count_p at h
 have hS0:=Az w
 refine AC Tryz.func90 rfl rfl rfl (fun _ cs0 hb0=>?_)
 refine Ac<|Am .plain rfl (AB hS0 rfl rfl) (fun J0 g0 u0 V0=>?_)
 refine Af rfl<|Aa<|Ac<|Af rfl<|Aa<|Ai<|Ac<|Af rfl<|Aa<|Aq ?_
 obtain ⟨Z0,B0,x0⟩:=bind_in2 h
 refine Bg (α:=Int × Nat) (fun ⟨c0,b0⟩=>[(0,vU a0),(2,.bool a2),(4,vP g0),(7,vI c0),(8,vI ((b0:Nat):Int))]) (fun ⟨c0,b0⟩ p0=>St w p0 [.cells g0 [vI a1.fj,vI a1.fe,vI a1.fh,v1_3] 58]∧Tr J0 [.cells g0 [vI a1.fj,vI a1.fe,vI a1.fh,v1_3] 58] p0 [.cells g0 [vI a1.fj,vI a1.fe,vI a1.fh,v1_3] 58]) (fun ⟨c0,b0⟩=>(c0,b0)) (0,0) B0 ⟨rfl,rfl,rfl,rfl,rfl,trivial⟩ ⟨u0,AQ _ _⟩ ?_
 rintro Q0 ⟨c0,b0⟩ p0 j0 ⟨d0,k0⟩ h
 unfold wardmoteref27_count_l1 at h
 try dsimp only at h
 refine Ai<|Ac<|Ae rfl<|Ab (AZ (i:=b0) (j:=64) rfl rfl)<|Aa<|AK rfl h (fun q0 h=>?_) (fun q0 h=>?_)
 refine Ao<|Ai<|Aq<|Ai<|Ac<|Ae rfl<|Ae rfl ?_
 obtain ⟨M0,G0,h⟩:=bi h
 refine Bb (.bool M0) body44 rfl (e2 rfl rfl) (fun w9 hw9=>wardmoteref27_has_c n _ w9 (d0.hL0 hL hw9) a0 ((b0:Nat):Int) G0) rfl<|Ab (By rfl)<|Aa<|MX.ifnb rfl h (fun s0 h=>?_) (fun s0 h=>?_)
 refine Ao<|Ac<|Ae rfl<|Aa<|MX.ifb rfl h (fun t0 h=>?_) (fun t0 h=>?_)
 refine Al<|Ae rfl<|Be 3 rfl<|AS rfl ((d0.memA .hd) 3 _ rfl)<|Ae rfl ?_
 obtain ⟨K0,F0,h⟩:=bi h
 have A0:=AE h1_3 d0
 obtain ⟨P0,R0,v0,y0,U0,C0,z0⟩:=Bi A0 F0
 obtain ⟨b1,c1,d1,rfl,W0,X0,Y0⟩:=op_TUnit C0
 refine Ab (Bk 6 b0 rfl v0 rfl rfl y0)<|Be 1 rfl<|AS rfl (z0 1 _ rfl) ?_
 obtain ⟨H0,D0,h⟩:=bi h
 refine Ab (FV.addc (i:=c0) (j:=K0.fy) rfl rfl D0)<|Af rfl<|Aa<|Ar<|Al<|Ae rfl<|Ab (Bj (i:=b0) (j:=1) rfl rfl (by omega))<|Af rfl<|Aa ?_
 exact j0 (H0,b0 + 1) _ _ ⟨rfl,rfl,rfl,rfl,rfl,trivial⟩ ⟨d0,k0⟩ h
 refine Al<|Ae rfl ?_
 obtain ⟨I0,E0,h⟩:=bi h
 refine Ab (FV.addc (i:=c0) (j:=1) rfl rfl E0)<|Af rfl<|Aa<|Ar<|Al<|Ae rfl<|Ab (Bj (i:=b0) (j:=1) rfl rfl (by omega))<|Af rfl<|Aa ?_
 exact j0 (I0,b0 + 1) _ _ ⟨rfl,rfl,rfl,rfl,rfl,trivial⟩ ⟨d0,k0⟩ h
 refine AW rfl<|Al<|Ae rfl<|Ab (Bj (i:=b0) (j:=1) rfl rfl (by omega))<|Af rfl<|Aa ?_
 exact j0 (c0,b0 + 1) _ _ ⟨rfl,rfl,rfl,rfl,rfl,trivial⟩ ⟨d0,k0⟩ h
 refine AW rfl ?_
 have h:=x0 _ h
 try dsimp only at h
 refine Ac<|Ae rfl<|Af rfl<|Aa<|Ak rfl<|AP hb0 Tryz.func90 rfl rfl ?_
 cases h
 exact d0.gv
theorem body90:bodyB Tryz.prog 90 = true:=by kernel_rfl
def wardmoteref27_bits_p (n:Nat) (a0:UInt64):Option Int:=
  (wardmoteref27_count_p n a0 (⟨(0:Int),(0:Int),(0:Int),([]:List TUnit)⟩:TRoll) false).bind fun y1=>some y1
theorem wardmoteref27_bits_c (n:Nat) (L:List Nat) (w:World) (hL:∀ b ∈ L,b < w.heap.size) (a0:UInt64)  {r:Int} (h:wardmoteref27_bits_p n a0 = some r) :
    Calls Tryz.prog 48 #[vU a0] w (Gives w fun _ u=>u = vI r):=by
 unfold wardmoteref27_bits_p at h
 have hS0:=Az w
 refine AC Tryz.func48 rfl rfl rfl (fun _ cs0 hb0=>?_)
 refine Ac<|Af rfl<|Aa<|Ac<|Ae rfl<|Ab (AN (vs:=[]) (u:=.agg #[vI 0,vI 0,vI 0,vN]) evs_nil (fun w9=>by kernel_rfl)) ?_
 obtain ⟨y1,hy1,h⟩:=bi h
 refine Bb (vI y1) body90 rfl (e3 rfl rfl rfl) (fun w9 hw9=>wardmoteref27_count_c n _ w9 (hS0.hL0 hL hw9) a0 (⟨(0:Int),(0:Int),(0:Int),([]:List TUnit)⟩:TRoll) (Au (Rep.nilSlice _ _) hw9) false hy1) rfl<|Af rfl<|Aa<|Ak rfl<|AP hb0 Tryz.func48 rfl rfl ?_
 cases h
 exact hS0.gv
theorem body47:bodyB Tryz.prog 47 = true:=by kernel_rfl
theorem body48:bodyB Tryz.prog 48 = true:=by kernel_rfl
def wardmoteref27_Overlap_p (n:Nat) (a0:UInt64) (a1:UInt64):Option (TShare × Int):=
  (if (a0 ||| a1) = (0:UInt64) then some ((⟨((0:UInt64),(0:UInt64),(0:UInt64),(0:UInt64),(0:UInt64),(0:UInt64),(0:UInt64),(0:UInt64)),((0:UInt64),(0:UInt64),(0:UInt64),(0:UInt64),(0:UInt64),(0:UInt64),(0:UInt64),(0:UInt64))⟩:TShare),(7:Int)) else (wardmoteref27_bits_p n (a0 &&& a1)).bind fun b0=>(wardmoteref27_bits_p n (a0 ||| a1)).bind fun c0=>(wardmoteref22_Of_p n b0 c0).bind fun d0=>some (d0,(0:Int)))
theorem wardmoteref27_Overlap_c (n:Nat) (L:List Nat) (w:World) (hL:∀ b ∈ L,b < w.heap.size) (a0:UInt64) (a1:UInt64)  {r:TShare × Int} (h:wardmoteref27_Overlap_p n a0 a1 = some r) :
    Calls Tryz.prog 16 #[vU a0,vU a1] w (Gives w fun _ u=>u = .tuple #[.agg ((cs_TShare r.1)).toArray,vI r.2]):=by
 unfold wardmoteref27_Overlap_p at h
 have hS0:=Az w
 refine AC Tryz.func16 rfl rfl rfl (fun _ cs0 hb0=>?_)
 refine Ac<|Am .plain rfl (Ay zL hS0) (fun z0 u0 b0 v0=>?_)
 refine Af rfl<|Aa<|Ai<|Ac<|Ae rfl<|Ae rfl<|Ab (FV.orU (a:=a0) (b:=a1) rfl rfl)<|Ab (FV.eqlU (a:=a0 ||| a1) (b:=(0:UInt64)) rfl rfl)<|Aa<|AK rfl h (fun p0 h=>?_) (fun p0 h=>?_)
 refine Ac<|Ab (AN (vs:=[]) (u:=.agg zM) evs_nil (fun w9=>by kernel_rfl))<|AR zL b0 .hd (onesB rfl) (fun A0 d0 x0=>?_)
 refine Af rfl<|Aa<|Ak rfl<|Ap hb0 Tryz.func16 rfl (.cons (.many (cs:=zL) (by kernel_rfl) rfl (d0.memA .hd)) (.cons (.tmp rfl) .nil)) rfl ?_
 cases h
 exact d0.gv
 refine Ao<|Ac<|Ae rfl<|Ae rfl<|Ab (FV.andU (a:=a0) (b:=a1) rfl rfl) ?_
 obtain ⟨j0,q0,h⟩:=bi h
 refine Bb (vI j0) body48 rfl (e1 rfl) (fun w9 hw9=>wardmoteref27_bits_c n _ w9 (b0.hL0 hL hw9) (a0 &&& a1) q0) rfl<|Ae rfl<|Ae rfl<|Ab (FV.orU (a:=a0) (b:=a1) rfl rfl) ?_
 obtain ⟨k0,s0,h⟩:=bi h
 refine Bb (vI k0) body48 rfl (e1 rfl) (fun w9 hw9=>wardmoteref27_bits_c n _ w9 (b0.hL0 hL hw9) (a0 ||| a1) s0) rfl ?_
 obtain ⟨c0,t0,h⟩:=bi h
 refine Bb (.agg ((cs_TShare c0)).toArray) body47 rfl (e2 rfl rfl) (fun w9 hw9=>wardmoteref22_Of_c n _ w9 (b0.hL0 hL hw9) j0 k0 t0) rfl<|AR (cs_TShare c0) b0 .hd (onesB rfl) (fun B0 g0 y0=>?_)
 refine Af rfl<|Aa<|Ak rfl<|Ap hb0 Tryz.func16 rfl (.cons (.many (cs:=(cs_TShare c0)) (by kernel_rfl) rfl (g0.memA .hd)) (.cons (.tmp rfl) .nil)) rfl ?_
 cases h
 exact g0.gv
end Go.Proofs.YtfccehcnajelgaaGreatDoor
