/- Functions of the program, and what they give: part 3. -/
import Derived.Test.YtfncplndfpgngaaDoorPK2
namespace Go.Proofs.YtfncplndfpgngaaDoor
open Go Go.RowKit
set_option maxRecDepth 4000
set_option maxHeartbeats 4000000

theorem body25:bodyB Tryd.prog 25 = true:=by kernel_rfl
def split_People_l1 (n:Nat) (j0:List Tparent) (d0:Nat × (List Int) → Option (List Int)):Nat × (List Int) → Option (List Int)
  | (b0,c0)=>(if b0 < j0.length then (j0[b0]?).bind fun g0=>(split_every_p n g0).bind fun p0=>(if p0 = true then (split_people_p n g0).bind fun q0=>(app c0 ([q0]:List Int)).bind fun k0=>d0 (b0 + 1,k0) else d0 (b0 + 1,c0)) else some c0)
def split_People_p (n:Nat) (a0:TRoll) (a1:Int):Option ((List Int) × Int):=
  (split_seen_p n a0 a1).bind fun b0=>(if b0.2 = 0 then (split_view_parents_p n b0.1 ([]:List Int)).bind fun d0=>Option.bind (loopF (split_People_l1 n d0) n (0,([]:List Int))) (fun c0=>some (c0,(0:Int))) else some (([]:List Int),b0.2))
theorem split_People_c (n:Nat) (L:List Nat) (w:World) (hL:∀ b ∈ L,b < w.heap.size) (a0:TRoll) {v0_3:Value} (h0_3:Rep.R w L [v0_3] a0.fo) (a1:Int)  {r:(List Int) × Int} (h:split_People_p n a0 a1 = some r) :
    Calls Tryd.prog 10 #[.agg #[vI a0.fh,vI a0.fc,vI a0.fe,v0_3],vI a1] w (Gives w fun w' u=>∃ v0_0:Value,u = .tuple #[v0_0,vI r.2]∧Rep.R w' L [v0_0] r.1):=by
 unfold split_People_p at h
 have hS0:=AC w
 refine AF Tryd.func10 rfl rfl rfl (fun _ cs0 hb0=>?_)
 refine Ae<|Ax .plain rfl (AL hS0 rfl rfl) (fun J2 u0 x0 A2=>?_)
 refine Af rfl<|Af rfl<|Aa<|Ae<|Ac (AI rfl (x0.memA .hd))<|Ab rfl ?_
 obtain ⟨b0,b2,h⟩:=bi h
 refine AY (fst:=[]) (cap:=[]) .plain body20 rfl (e2 rfl rfl) (fun w9 hw9=>split_seen_c n _ w9 (x0.hL hL hw9) a0 (x0.km h0_3 hw9) a1 b2) rfl (fun K2 I2 v1 ⟨s0,hu_,U0⟩=>?_)
 subst hu_
 obtain ⟨g1,C2⟩:=x0.agr v1
 refine Ab rfl<|Ac (Aj rfl rfl)<|Ac (Aj rfl rfl)<|Ax .plain rfl (AO [vI 0,vI 0,vI 0,vN,vI 0] g1) (fun U2 v0 k1 P0=>?_)
 have K1:=AE U0 P0
 refine RG.sa [vI b0.1.fj.fh,vI b0.1.fj.fc,vI b0.1.fj.fe,s0,vI b0.1.fm] k1 .hd (o5 rfl rfl rfl (Rep.o1 K1) rfl) (fun V2 p0 t1=>?_)
 refine Af rfl<|Aa<|Am<|Ae<|Ab rfl<|Ac (FV.neq (i:=b0.2) (j:=0) rfl rfl)<|Aa<|MX.ifn rfl h (fun Y0 h=>?_) (fun Y0 h=>?_)
 refine Aq<|Ae<|Ac (AI rfl (p0.memA .hd)) ?_
 have X1:=AN (α:=Int) p0 L
 obtain ⟨A0,g2,h⟩:=bi h
 have M1:=AE U0 (Tt P0 t1)
 refine AY (fst:=[]) (cap:=[]) .plain body21 rfl (e2 rfl rfl) (fun w9 hw9=>split_view_parents_c n _ w9 (p0.hL hL hw9) b0.1 (Aw M1 hw9) ([]:List Int) (Aw X1 hw9) g2) rfl (fun k2 V0 x1 ⟨H2,hu_,F0⟩=>?_)
 subst hu_
 obtain ⟨H0,D2⟩:=p0.agr x1
 refine AW (fst:=[]) (cap:=[]) (vs:=[V0,.func (.func 18) #[] #[],.func (.func 25) #[] #[]]) .plain body17 Tryd.func17 rfl rfl rfl rfl (e3 rfl rfl rfl) rfl (fun z2 y1 F2=>?_)
 refine Ae<|Af rfl<|Aa<|Am<|Ae<|Ab rfl ?_
 have E2:A0.length ≤ 281474976710656:=Rep.lenle F0
 refine Ac (FV.len (xs:=A0) Tryd.underlying51 rfl F0)<|Ab rfl<|Aa<|Au ?_
 have I0:=H0.nilRow 3 (Rep.size Int)
 have u1:=St.nilRowT H0 3 (Rep.size Int)
 have B1:=Az (cs:=[]) (xs:=([]:List Int)) I0 L (AB _ _)
 obtain ⟨G2,P1,D1⟩:=bind_in2 h
 refine MX.loop (α:=Nat × (List Int) × Value × (List Value)) (fun ⟨c0,g0,d0,j0⟩=>[(1,.func (.func 18) #[] #[]),(2,.func (.func 25) #[] #[]),(6,d0),(9,V0),(10,vI ((A0.length:Nat):Int)),(11,vI ((c0:Nat):Int))]) (fun ⟨c0,g0,d0,j0⟩ z0=>St w z0 [.row w.heap.size 3 (Rep.size Int) d0 g0.length j0,.cells v0 [vI b0.1.fj.fh,vI b0.1.fj.fc,vI b0.1.fj.fe,s0,vI b0.1.fm] 61,.cells u0 [vI a0.fh,vI a0.fc,vI a0.fe,v0_3] 25]∧Tr k2 [.row w.heap.size 3 (Rep.size Int) vN (([]:List Int).length) [],.cells v0 [vI b0.1.fj.fh,vI b0.1.fj.fc,vI b0.1.fj.fe,s0,vI b0.1.fm] 61,.cells u0 [vI a0.fh,vI a0.fc,vI a0.fe,v0_3] 25] z0 [.row w.heap.size 3 (Rep.size Int) d0 g0.length j0,.cells v0 [vI b0.1.fj.fh,vI b0.1.fj.fc,vI b0.1.fj.fe,s0,vI b0.1.fm] 61,.cells u0 [vI a0.fh,vI a0.fc,vI a0.fe,v0_3] 25]∧Cells z0 (bl [.row w.heap.size 3 (Rep.size Int) d0 g0.length j0,.cells v0 [vI b0.1.fj.fh,vI b0.1.fj.fc,vI b0.1.fj.fe,s0,vI b0.1.fm] 61,.cells u0 [vI a0.fh,vI a0.fc,vI a0.fe,v0_3] 25] ++ L) j0 g0) (fun ⟨c0,g0,d0,j0⟩=>(c0,g0)) (0,([]:List Int),vN,[]) P1 ⟨rfl,rfl,rfl,rfl,rfl,rfl,trivial⟩ ⟨I0,AM _ _,B1⟩ ?_
 rintro t2 ⟨c0,g0,d0,j0⟩ z0 G0 ⟨y0,D0,E0⟩ h
 unfold split_People_l1 at h
 try dsimp only at h
 refine Ae<|Ac (FV.lssN (i:=c0) (j:=A0.length) rfl rfl)<|Aa<|Am<|AU rfl h (fun W0 h=>?_) (fun W0 h=>?_)
 refine Aq<|Am<|Au<|Ae ?_
 obtain ⟨t0,Y1,h⟩:=bi h
 have G1:=AE F0 (Tt u1 D0)
 obtain ⟨s2,x2,C1,E1,y2,R1,F1⟩:=Rep.nth G1 Y1
 obtain rfl:=op_Tparent R1
 refine Ac (FV.ia 3 c0 rfl C1 rfl rfl E1)<|Ac (AI rfl F1)<|Ax .plain rfl (AO [vI 0,vI 0,.int .u8 0] y0) (fun M2 u2 b1 J0=>?_)
 refine RG.sa [vI t0.fv,vI t0.fu,.int .u8 (t0.fl.toNat:Int)] b1 .hd (onesB rfl) (fun P2 q0 K0=>?_)
 refine Aa<|Ae<|Ab rfl<|Ac (AI rfl (q0.memA .hd)) ?_
 obtain ⟨q2,c2,h⟩:=bi h
 refine RG.cq (.bool q2) body18 rfl (e1 rfl) (fun w9 hw9=>split_every_c n _ w9 (q0.hL0 hL hw9) t0 c2) rfl<|Aa<|MX.ifb rfl h (fun X0 h=>?_) (fun X0 h=>?_)
 refine Al<|Ab rfl<|Ab rfl<|Ac (AI rfl (q0.memA .hd)) ?_
 obtain ⟨k0,d2,h⟩:=bi h
 refine RG.cq (vI k0) body25 rfl (e1 rfl) (fun w9 hw9=>split_people_c n _ w9 (q0.hL0 hL hw9) t0 d2) rfl<|Ax .plain rfl (AD (α:=Int) (xs:=([k0]:List Int)) (vs:=[vI k0]) (ds' :=[vI k0]) rfl q0 el27 rfl (e1 rfl) (by kernel_rfl) rfl) (fun Q2 v2 B0 p1=>?_)
 have z1:=Az (cs:=[vI k0]) (xs:=(([k0]:List Int):List Int)) B0 L (Ai (cs:=[vI k0]) (ds:=[]) rfl (AB _ _))
 obtain ⟨p2,Z1,h⟩:=bi h
 have Q0:=Tt J0 (Tt K0 p1)
 have H1:=AJ E0 Q0
 refine RG.doesL .plain rfl (DoesL.app (α:=Int) (ys:=([k0]:List Int)) Z1 B0 (fun _ _=>(.tl (.tl .hd))) el27 rfl rfl H1 (Src.row (α:=Int) B0 .hd z1)) (fun j2 R2 ⟨Z0,c1,q1,A1⟩=>?_)
 refine Af rfl<|Aa<|Ar<|Al<|Ac (AX (i:=c0) (j:=1) rfl rfl (by omega))<|Ab rfl<|Aa ?_
 obtain ⟨d1,M0⟩:=AA c1 (.one (.tl (.tl .hd)) (.one (.tl (.tl .hd)) (.one (.tl (.tl .hd)) .done)))
 have I1:=AJ A1 M0
 have Q1:=Tt Q0 (Tt q1 M0)
 exact G0 (c0 + 1,p2,j2,Z0) _ _ ⟨rfl,rfl,rfl,rfl,rfl,rfl,trivial⟩ ⟨d1,(Tt D0 Q1),I1⟩ h
 refine Aq<|Ar<|Al<|Ac (AX (i:=c0) (j:=1) rfl rfl (by omega))<|Ab rfl<|Aa ?_
 obtain ⟨j1,s1⟩:=AA q0 (.one (.tl .hd) (.one (.tl .hd) (.one (.tl .hd) .done)))
 have R0:=Tt J0 (Tt K0 s1)
 have J1:=AJ E0 R0
 exact G0 (c0 + 1,g0,d0,j0) _ _ ⟨rfl,rfl,rfl,rfl,rfl,rfl,trivial⟩ ⟨j1,(Tt D0 R0),J1⟩ h
 refine AT rfl ?_
 have h:=D1 _ h
 try dsimp only at h
 refine Ae<|Ab rfl<|Af rfl<|Aa<|Ao rfl<|Av (u:=d0) y1 Tryd.func17 rfl (.cons (.tmp rfl) .nil) rfl<|Af rfl<|Af rfl<|Aa<|Ao rfl ?_
 have U1:=AP (α:=Int) y0 .hd E0 hL
 have C0:=St.delS y0 .hd
 have B2:=St.delT y0 .hd
 have V1:=Rep.at_ (α:=Int) (v:=d0) (xs:=g0) C0 L U1
 refine Av hb0 Tryd.func10 rfl (.cons (.tmp rfl) (.cons (.tmp rfl) .nil)) rfl ?_
 cases h
 exact ⟨C0.ag,fun w9 hw9=>⟨d0,rfl,C0.kd V1 hw9⟩⟩
 refine Ae<|Ab rfl<|Af rfl<|Af rfl<|Aa<|Ao rfl ?_
 have W1:=AN (α:=Int) p0 L
 refine Av hb0 Tryd.func10 rfl (.cons (.tmp rfl) (.cons (.tmp rfl) .nil)) rfl ?_
 cases h
 exact ⟨p0.ag,fun w9 hw9=>⟨vN,rfl,p0.kd W1 hw9⟩⟩
def split_Splits_1_p (n:Nat) (a0:Tparent):Option Bool:=
  (split_parent_pieces_p n a0).bind fun b0=>some (decide (1 < b0))
theorem split_Splits_1_c (n:Nat) (L:List Nat) (w:World) (hL:∀ b ∈ L,b < w.heap.size) (a0:Tparent)  {r:Bool} (h:split_Splits_1_p n a0 = some r) :
    Calls Tryd.prog 26 #[.agg #[vI a0.fv,vI a0.fu,.int .u8 (a0.fl.toNat:Int)]] w (Gives w fun _ u=>u = .bool r):=by
 unfold split_Splits_1_p at h
 have hS0:=AC w
 refine AF Tryd.func26 rfl rfl rfl (fun _ cs0 hb0=>?_)
 refine Ae<|Ax .plain rfl (AL hS0 rfl rfl) (fun k0 g0 b0 j0=>?_)
 refine Af rfl<|Aa<|Ae<|Ac (AI rfl (b0.memA .hd)) ?_
 obtain ⟨c0,d0,h⟩:=bi h
 refine RG.cq (vI c0) body19 rfl (e1 rfl) (fun w9 hw9=>split_parent_pieces_c n _ w9 (b0.hL0 hL hw9) a0 d0) rfl<|Ac (FV.gtr (i:=c0) (j:=1) rfl rfl)<|Af rfl<|Aa<|Ao rfl<|AK hb0 Tryd.func26 rfl rfl ?_
 cases h
 exact b0.gv
def split_sum_l1 (_n:Nat) (a0:List Int) (d0:Int × Nat → Option Int):Int × Nat → Option Int
  | (c0,b0)=>(if b0 < a0.length then (a0[b0]?).bind fun j0=>(chk (c0 + j0)).bind fun g0=>d0 (g0,b0 + 1) else some c0)
def split_sum_p (n:Nat) (a0:List Int):Option Int:=
  Option.bind (loopF (split_sum_l1 n a0) n (0,0)) (fun b0=>some b0)
theorem split_sum_c (n:Nat) (L:List Nat) (w:World) (_hL:∀ b ∈ L,b < w.heap.size) (a0:List Int) {v0_0:Value} (h0_0:Rep.R w L [v0_0] a0)  {r:Int} (h:split_sum_p n a0 = some r) :
    Calls Tryd.prog 27 #[v0_0] w (Gives w fun _ u=>u = vI r):=by
 unfold split_sum_p at h
 have hS0:=AC w
 refine AF Tryd.func27 rfl rfl rfl (fun _ cs0 hb0=>?_)
 refine Ae<|Af rfl<|Aa<|Am<|Ae<|Ab rfl ?_
 have hl1:a0.length ≤ 281474976710656:=Rep.lenle h0_0
 refine Ac (FV.len (xs:=a0) Tryd.underlying27 rfl h0_0)<|Ab rfl<|Aa<|Au ?_
 obtain ⟨I0,A0,v0⟩:=bind_in2 h
 refine MX.loop (α:=Int × Nat) (fun ⟨c0,b0⟩=>[(2,vI c0),(5,v0_0),(6,vI ((a0.length:Nat):Int)),(7,vI ((b0:Nat):Int))]) (fun ⟨c0,b0⟩ g0=>St w g0 []∧Tr w [] g0 []) (fun ⟨c0,b0⟩=>(c0,b0)) (0,0) A0 ⟨rfl,rfl,rfl,rfl,trivial⟩ ⟨hS0,AM _ _⟩ ?_
 rintro G0 ⟨c0,b0⟩ g0 q0 ⟨d0,s0⟩ h
 unfold split_sum_l1 at h
 try dsimp only at h
 refine Ae<|Ac (FV.lssN (i:=b0) (j:=a0.length) rfl rfl)<|Aa<|Am<|AU rfl h (fun k0 h=>?_) (fun k0 h=>?_)
 refine Aq<|Am<|Au<|Ae ?_
 obtain ⟨j0,D0,h⟩:=bi h
 have z0:=Rep.mv0 h0_0 d0
 obtain ⟨F0,H0,t0,x0,p0,B0,y0⟩:=Rep.nth z0 D0
 have u0:p0 = [vI j0]:=B0; subst u0
 refine Ac (FV.ia 1 b0 rfl t0 rfl rfl x0)<|Ba rfl (y0 0 _ rfl)<|Af rfl<|Aa<|Al<|Ab rfl<|Ab rfl ?_
 obtain ⟨E0,C0,h⟩:=bi h
 refine Ac (FV.addc (i:=c0) (j:=j0) rfl rfl C0)<|Af rfl<|Aa<|Ar<|Al<|Ac (AX (i:=b0) (j:=1) rfl rfl (by omega))<|Ab rfl<|Aa ?_
 exact q0 (E0,b0 + 1) _ _ ⟨rfl,rfl,rfl,rfl,trivial⟩ ⟨d0,s0⟩ h
 refine AT rfl ?_
 have h:=v0 _ h
 try dsimp only at h
 refine Ae<|Ab rfl<|Af rfl<|Aa<|Ao rfl<|AK hb0 Tryd.func27 rfl rfl ?_
 cases h
 exact d0.gv
structure TSplits where
  fx:Int
  fw:Int
  deriving DecidableEq
instance:Rep TSplits:=Rep.via (β:=Int × Int) fun x=>(x.fx,x.fw)
theorem body26:bodyB Tryd.prog 26 = true:=by kernel_rfl
theorem body27:bodyB Tryd.prog 27 = true:=by kernel_rfl
def split_Splits_l1 (n:Nat) (j0:(List Tparent) × Int) (d0:Nat × (List Int) → Option (List Int)):Nat × (List Int) → Option (List Int)
  | (b0,c0)=>(if b0 < j0.1.length then (j0.1[b0]?).bind fun g0=>(split_every_p n g0).bind fun p0=>(if p0 = true then (split_parent_pieces_p n g0).bind fun q0=>(app c0 ([q0]:List Int)).bind fun k0=>d0 (b0 + 1,k0) else d0 (b0 + 1,c0)) else some c0)
def split_Splits_l2 (n:Nat) (j0:(List Tparent) × Int) (d0:Nat × (List Int) → Option (List Int)):Nat × (List Int) → Option (List Int)
  | (b0,c0)=>(if b0 < j0.1.length then (j0.1[b0]?).bind fun g0=>(split_Splits_1_p n g0).bind fun p0=>(if p0 = true then (split_name_p n g0).bind fun q0=>(app c0 ([q0]:List Int)).bind fun k0=>d0 (b0 + 1,k0) else d0 (b0 + 1,c0)) else some c0)
def split_Splits_p (n:Nat) (a0:TRoll) (a1:List Int) (a2:Int) (a3:Int):Option (TSplits × Int):=
  (split_planned_p n a0 a1 a2 a3).bind fun b0=>(if b0.2 = 0 then Option.bind (loopF (split_Splits_l2 n b0) n (0,([]:List Int))) (fun c0=>Option.bind (loopF (split_Splits_l1 n b0) n (0,([]:List Int))) (fun d0=>(split_sum_p n d0).bind fun g0=>some ((⟨((c0.length:Nat):Int),g0⟩:TSplits),(0:Int)))) else some ((⟨(0:Int),(0:Int)⟩:TSplits),b0.2))
theorem split_Splits_c (n:Nat) (L:List Nat) (w:World) (hL:∀ b ∈ L,b < w.heap.size) (a0:TRoll) {v0_3:Value} (h0_3:Rep.R w L [v0_3] a0.fo) (a1:List Int) {v1_0:Value} (h1_0:Rep.R w L [v1_0] a1) (a2:Int) (a3:Int)  {r:TSplits × Int} (h:split_Splits_p n a0 a1 a2 a3 = some r) :
    Calls Tryd.prog 11 #[.agg #[vI a0.fh,vI a0.fc,vI a0.fe,v0_3],v1_0,vI a2,vI a3] w (Gives w fun _ u=>u = .tuple #[.agg #[vI r.1.fx,vI r.1.fw],vI r.2]):=by
 unfold split_Splits_p at h
 have hS0:=AC w
 refine AF Tryd.func11 rfl rfl rfl (fun _ cs0 hb0=>?_)
 refine Ae<|Ax .plain rfl (AL hS0 rfl rfl) (fun q4 q0 F1 V3=>?_)
 refine Ax .plain rfl (AO [vI 0,vI 0] F1) (fun v4 s0 B0 W3=>?_)
 refine Af rfl<|Aa<|Ae<|Ac (AI rfl (B0.memA (.tl .hd)))<|Ab rfl<|Ab rfl<|Ab rfl ?_
 obtain ⟨v0,j3,h⟩:=bi h
 refine AY (fst:=[]) (cap:=[]) .plain body16 rfl (e4 rfl rfl rfl rfl) (fun w9 hw9=>split_planned_c n _ w9 (B0.hL hL hw9) a0 (B0.km h0_3 hw9) a1 (B0.km h1_0 hw9) a2 a3 j3) rfl (fun u3 p4 b2 ⟨J0,hu_,D0⟩=>?_)
 subst hu_
 obtain ⟨P0,X3⟩:=B0.agr b2
 refine Ab rfl<|Ac (Aj rfl rfl)<|Ac (Aj rfl rfl)<|Af rfl<|Af rfl<|Aa<|Am<|Ae<|Ab rfl<|Ac (FV.neq (i:=v0.2) (j:=0) rfl rfl)<|Aa<|MX.ifn rfl h (fun A1 h=>?_) (fun A1 h=>?_)
 refine Aq<|Ae<|Af rfl<|Aa<|Ae<|Ab rfl<|Ab rfl<|AW (fst:=[]) (cap:=[]) (vs:=[J0,.func (.func 26) #[] #[],.func (.func 23) #[] #[]]) .plain body17 Tryd.func17 rfl rfl rfl rfl (e3 rfl rfl rfl) rfl (fun R3 d2 g4=>?_)
 refine Ae<|Af rfl<|Aa<|Am<|Ae<|Ab rfl ?_
 have c4:v0.1.length ≤ 281474976710656:=Rep.lenle D0
 refine Ac (FV.len (xs:=v0.1) Tryd.underlying51 rfl D0)<|Ab rfl<|Aa<|Au ?_
 have Z0:=P0.nilRow 3 (Rep.size Int)
 have U0:=St.nilRowT P0 3 (Rep.size Int)
 have s2:=Az (cs:=[]) (xs:=([]:List Int)) Z0 L (AB _ _)
 obtain ⟨j4,P2,x2⟩:=bind_in2 h
 refine MX.loop (α:=Nat × (List Int) × Value × (List Value)) (fun ⟨g0,b0,c0,d0⟩=>[(1,.func (.func 26) #[] #[]),(2,.func (.func 23) #[] #[]),(6,c0),(9,J0),(10,vI ((v0.1.length:Nat):Int)),(11,vI ((g0:Nat):Int))]) (fun ⟨g0,b0,c0,d0⟩ E0=>St w E0 [.row w.heap.size 3 (Rep.size Int) c0 b0.length d0,.cells s0 [vI 0,vI 0] 40,.cells q0 [vI a0.fh,vI a0.fc,vI a0.fe,v0_3] 25]∧Tr u3 [.row w.heap.size 3 (Rep.size Int) vN (([]:List Int).length) [],.cells s0 [vI 0,vI 0] 40,.cells q0 [vI a0.fh,vI a0.fc,vI a0.fe,v0_3] 25] E0 [.row w.heap.size 3 (Rep.size Int) c0 b0.length d0,.cells s0 [vI 0,vI 0] 40,.cells q0 [vI a0.fh,vI a0.fc,vI a0.fe,v0_3] 25]∧Cells E0 (bl [.row w.heap.size 3 (Rep.size Int) c0 b0.length d0,.cells s0 [vI 0,vI 0] 40,.cells q0 [vI a0.fh,vI a0.fc,vI a0.fe,v0_3] 25] ++ L) d0 b0) (fun ⟨g0,b0,c0,d0⟩=>(g0,b0)) (0,([]:List Int),vN,[]) P2 ⟨rfl,rfl,rfl,rfl,rfl,rfl,trivial⟩ ⟨Z0,AM _ _,s2⟩ ?_
 rintro D3 ⟨g0,b0,c0,d0⟩ E0 W0 ⟨A0,C0,s1⟩ h
 unfold split_Splits_l2 at h
 try dsimp only at h
 refine Ae<|Ac (FV.lssN (i:=g0) (j:=v0.1.length) rfl rfl)<|Aa<|Am<|AU rfl h (fun y1 h=>?_) (fun y1 h=>?_)
 refine Aq<|Am<|Au<|Ae ?_
 obtain ⟨F0,Y2,h⟩:=bi h
 have C2:=AE D0 (Tt U0 C0)
 obtain ⟨A3,J3,t2,z2,P3,W2,B2⟩:=Rep.nth C2 Y2
 obtain rfl:=op_Tparent W2
 refine Ac (FV.ia 3 g0 rfl t2 rfl rfl z2)<|Ac (AI rfl B2)<|Ax .plain rfl (AO [vI 0,vI 0,.int .u8 0] A0) (fun s4 F3 G1 d1=>?_)
 refine RG.sa [vI F0.fv,vI F0.fu,.int .u8 (F0.fl.toNat:Int)] G1 .hd (onesB rfl) (fun t4 y0 g1=>?_)
 refine Aa<|Ae<|Ab rfl<|Ac (AI rfl (y0.memA .hd)) ?_
 obtain ⟨y3,d3,h⟩:=bi h
 refine RG.cq (.bool y3) body26 rfl (e1 rfl) (fun w9 hw9=>split_Splits_1_c n _ w9 (y0.hL0 hL hw9) F0 d3) rfl<|Aa<|MX.ifb rfl h (fun z1 h=>?_) (fun z1 h=>?_)
 refine Al<|Ab rfl<|Ab rfl<|Ac (AI rfl (y0.memA .hd)) ?_
 obtain ⟨u0,g3,h⟩:=bi h
 refine RG.cq (vI u0) body23 rfl (e1 rfl) (fun w9 hw9=>split_name_c n _ w9 (y0.hL0 hL hw9) F0 g3) rfl<|Ax .plain rfl (AD (α:=Int) (xs:=([u0]:List Int)) (vs:=[vI u0]) (ds' :=[vI u0]) rfl y0 el27 rfl (e1 rfl) (by kernel_rfl) rfl) (fun u4 G3 M0 R1=>?_)
 have g2:=Az (cs:=[vI u0]) (xs:=(([u0]:List Int):List Int)) M0 L (Ai (cs:=[vI u0]) (ds:=[]) rfl (AB _ _))
 obtain ⟨v3,b3,h⟩:=bi h
 have t1:=Tt d1 (Tt g1 R1)
 have D2:=AJ s1 t1
 refine RG.doesL .plain rfl (DoesL.app (α:=Int) (ys:=([u0]:List Int)) b3 M0 (fun _ _=>(.tl (.tl .hd))) el27 rfl rfl D2 (Src.row (α:=Int) M0 .hd g2)) (fun s3 x4 ⟨D1,H1,U1,j2⟩=>?_)
 refine Af rfl<|Aa<|Ar<|Al<|Ac (AX (i:=g0) (j:=1) rfl rfl (by omega))<|Ab rfl<|Aa ?_
 obtain ⟨I1,j1⟩:=AA H1 (.one (.tl (.tl .hd)) (.one (.tl (.tl .hd)) (.one (.tl (.tl .hd)) .done)))
 have E2:=AJ j2 j1
 have R2:=Tt t1 (Tt U1 j1)
 exact W0 (g0 + 1,v3,s3,D1) _ _ ⟨rfl,rfl,rfl,rfl,rfl,rfl,trivial⟩ ⟨I1,(Tt C0 R2),E2⟩ h
 refine Aq<|Ar<|Al<|Ac (AX (i:=g0) (j:=1) rfl rfl (by omega))<|Ab rfl<|Aa ?_
 obtain ⟨J1,V1⟩:=AA y0 (.one (.tl .hd) (.one (.tl .hd) (.one (.tl .hd) .done)))
 have u1:=Tt d1 (Tt g1 V1)
 have F2:=AJ s1 u1
 exact W0 (g0 + 1,b0,c0,d0) _ _ ⟨rfl,rfl,rfl,rfl,rfl,rfl,trivial⟩ ⟨J1,(Tt C0 u1),F2⟩ h
 refine AT rfl ?_
 have h:=x2 _ h
 try dsimp only at h
 refine Ae<|Ab rfl<|Af rfl<|Aa<|Ao rfl<|Av (u:=c0) d2 Tryd.func17 rfl (.cons (.tmp rfl) .nil) rfl ?_
 have b4:b0.length ≤ 4294967296:=St.rowLe (α:=Int) A0 .hd
 obtain ⟨B3,K3,u2⟩:=St.rowV (α:=Int) A0 .hd
 refine Ac (FV.lenV Tryd.underlying27 rfl u2)<|Ab rfl<|AW (fst:=[]) (cap:=[]) (vs:=[J0,.func (.func 18) #[] #[],.func (.func 19) #[] #[]]) .plain body17 Tryd.func17 rfl rfl rfl rfl (e3 rfl rfl rfl) rfl (fun Q3 c2 d4=>?_)
 refine Ae<|Af rfl<|Aa<|Am<|Ae<|Ab rfl ?_
 have G2:=AE D0 (Tt U0 C0)
 refine Ac (FV.len (xs:=v0.1) Tryd.underlying51 rfl G2)<|Ab rfl<|Aa<|Au ?_
 have Y0:=A0.nilRow 3 (Rep.size Int)
 have W1:=St.nilRowT A0 3 (Rep.size Int)
 have k2:=Az (cs:=[]) (xs:=([]:List Int)) Y0 L (AB _ _)
 obtain ⟨k4,Q2,y2⟩:=bind_in2 h
 refine MX.loop (α:=Nat × (List Int) × Value × (List Value)) (fun ⟨j0,k0,p0,t0⟩=>[(1,.func (.func 18) #[] #[]),(2,.func (.func 19) #[] #[]),(6,p0),(9,J0),(10,vI ((v0.1.length:Nat):Int)),(11,vI ((j0:Nat):Int))]) (fun ⟨j0,k0,p0,t0⟩ K0=>St w K0 [.row w.heap.size 3 (Rep.size Int) p0 k0.length t0,.row w.heap.size 3 (Rep.size Int) c0 b0.length d0,.cells s0 [vI 0,vI 0] 40,.cells q0 [vI a0.fh,vI a0.fc,vI a0.fe,v0_3] 25]∧Tr E0 [.row w.heap.size 3 (Rep.size Int) vN (([]:List Int).length) [],.row w.heap.size 3 (Rep.size Int) c0 b0.length d0,.cells s0 [vI 0,vI 0] 40,.cells q0 [vI a0.fh,vI a0.fc,vI a0.fe,v0_3] 25] K0 [.row w.heap.size 3 (Rep.size Int) p0 k0.length t0,.row w.heap.size 3 (Rep.size Int) c0 b0.length d0,.cells s0 [vI 0,vI 0] 40,.cells q0 [vI a0.fh,vI a0.fc,vI a0.fe,v0_3] 25]∧Cells K0 (bl [.row w.heap.size 3 (Rep.size Int) p0 k0.length t0,.row w.heap.size 3 (Rep.size Int) c0 b0.length d0,.cells s0 [vI 0,vI 0] 40,.cells q0 [vI a0.fh,vI a0.fc,vI a0.fe,v0_3] 25] ++ L) t0 k0) (fun ⟨j0,k0,p0,t0⟩=>(j0,k0)) (0,([]:List Int),vN,[]) Q2 ⟨rfl,rfl,rfl,rfl,rfl,rfl,trivial⟩ ⟨Y0,AM _ _,k2⟩ ?_
 rintro E3 ⟨j0,k0,p0,t0⟩ K0 X0 ⟨I0,R0,V0⟩ h
 unfold split_Splits_l1 at h
 try dsimp only at h
 refine Ae<|Ac (FV.lssN (i:=j0) (j:=v0.1.length) rfl rfl)<|Aa<|Am<|AU rfl h (fun B1 h=>?_) (fun B1 h=>?_)
 refine Aq<|Am<|Au<|Ae ?_
 obtain ⟨G0,Z2,h⟩:=bi h
 have U2:=Tt U0 (Tt C0 (Tt W1 R0))
 have I2:=AE D0 U2
 obtain ⟨C3,M3,v2,A2,U3,X2,H2⟩:=Rep.nth I2 Z2
 obtain rfl:=op_Tparent X2
 refine Ac (FV.ia 3 j0 rfl v2 rfl rfl A2)<|Ac (AI rfl H2)<|Ax .plain rfl (AO [vI 0,vI 0,.int .u8 0] I0) (fun y4 H3 K1 k1=>?_)
 refine RG.sa [vI G0.fv,vI G0.fu,.int .u8 (G0.fl.toNat:Int)] K1 .hd (onesB rfl) (fun z4 z0 p1=>?_)
 refine Aa<|Ae<|Ab rfl<|Ac (AI rfl (z0.memA .hd)) ?_
 obtain ⟨z3,k3,h⟩:=bi h
 refine RG.cq (.bool z3) body18 rfl (e1 rfl) (fun w9 hw9=>split_every_c n _ w9 (z0.hL0 hL hw9) G0 k3) rfl<|Aa<|MX.ifb rfl h (fun C1 h=>?_) (fun C1 h=>?_)
 refine Al<|Ab rfl<|Ab rfl<|Ac (AI rfl (z0.memA .hd)) ?_
 obtain ⟨x0,p3,h⟩:=bi h
 refine RG.cq (vI x0) body19 rfl (e1 rfl) (fun w9 hw9=>split_parent_pieces_c n _ w9 (z0.hL0 hL hw9) G0 p3) rfl<|Ax .plain rfl (AD (α:=Int) (xs:=([x0]:List Int)) (vs:=[vI x0]) (ds' :=[vI x0]) rfl z0 el27 rfl (e1 rfl) (by kernel_rfl) rfl) (fun A4 I3 Q0 X1=>?_)
 have p2:=Az (cs:=[vI x0]) (xs:=(([x0]:List Int):List Int)) Q0 L (Ai (cs:=[vI x0]) (ds:=[]) rfl (AB _ _))
 obtain ⟨x3,c3,h⟩:=bi h
 have v1:=Tt k1 (Tt p1 X1)
 have J2:=AJ V0 v1
 refine RG.doesL .plain rfl (DoesL.app (α:=Int) (ys:=([x0]:List Int)) c3 Q0 (fun _ _=>(.tl (.tl .hd))) el27 rfl rfl J2 (Src.row (α:=Int) Q0 .hd p2)) (fun t3 B4 ⟨E1,M1,Y1,q2⟩=>?_)
 refine Af rfl<|Aa<|Ar<|Al<|Ac (AX (i:=j0) (j:=1) rfl rfl (by omega))<|Ab rfl<|Aa ?_
 obtain ⟨P1,q1⟩:=AA M1 (.one (.tl (.tl .hd)) (.one (.tl (.tl .hd)) (.one (.tl (.tl .hd)) (.one (.tl (.tl .hd)) .done))))
 have K2:=AJ q2 q1
 have V2:=Tt v1 (Tt Y1 q1)
 exact X0 (j0 + 1,x3,t3,E1) _ _ ⟨rfl,rfl,rfl,rfl,rfl,rfl,trivial⟩ ⟨P1,(Tt R0 V2),K2⟩ h
 refine Aq<|Ar<|Al<|Ac (AX (i:=j0) (j:=1) rfl rfl (by omega))<|Ab rfl<|Aa ?_
 obtain ⟨Q1,Z1⟩:=AA z0 (.one (.tl .hd) (.one (.tl .hd) (.one (.tl .hd) (.one (.tl .hd) .done))))
 have x1:=Tt k1 (Tt p1 Z1)
 have M2:=AJ V0 x1
 exact X0 (j0 + 1,k0,p0,t0) _ _ ⟨rfl,rfl,rfl,rfl,rfl,rfl,trivial⟩ ⟨Q1,(Tt R0 x1),M2⟩ h
 refine AT rfl ?_
 have h:=y2 _ h
 try dsimp only at h
 refine Ae<|Ab rfl<|Af rfl<|Aa<|Ao rfl<|Av (u:=p0) c2 Tryd.func17 rfl (.cons (.tmp rfl) .nil) rfl ?_
 obtain ⟨H0,q3,h⟩:=bi h
 refine RG.cq (vI H0) body27 rfl (e1 rfl) (fun w9 hw9=>split_sum_c n _ w9 (I0.hL0 hL hw9) k0 (Aw (St.lend (α:=Int) (L:=L) I0 .hd V0 hL) hw9) q3) rfl<|Ac (Bc (vs:=[vI ((b0.length:Nat):Int),vI H0]) (u:=.agg #[vI ((b0.length:Nat):Int),vI H0]) (e2 rfl rfl) (fun w9=>by kernel_rfl))<|RG.sa [vI ((b0.length:Nat):Int),vI H0] I0 (.tl (.tl .hd)) (onesB rfl) (fun C4 b1 Y3=>?_)
 refine Af rfl<|Aa<|Ao rfl<|Av hb0 Tryd.func11 rfl (.cons (.many (cs:=[vI ((b0.length:Nat):Int),vI H0]) (by kernel_rfl) rfl (b1.memA (.tl (.tl .hd)))) (.cons (.tmp rfl) .nil)) rfl ?_
 cases h
 exact b1.gv
 refine Ae<|Ac (Bc (vs:=[]) (u:=.agg #[vI 0,vI 0]) evs_nil (fun w9=>by kernel_rfl))<|Ab rfl<|RG.sa [vI 0,vI 0] P0 .hd (onesB rfl) (fun D4 c1 Z3=>?_)
 refine Af rfl<|Aa<|Ao rfl<|Av hb0 Tryd.func11 rfl (.cons (.many (cs:=[vI 0,vI 0]) (by kernel_rfl) rfl (c1.memA .hd)) (.cons (.tmp rfl) .nil)) rfl ?_
 cases h
 exact c1.gv
def tb29_6:List (Nat × Nat × Nat):=[(0,65536,1),(0,131072,32),(3,262144,196608),(4,524288,262144),(0,1048576,2),(0,2097152,32),(48,4194304,3145728),(64,8388608,4194304),(136,16777216,8912896)]
def slices_Equal_int_int_l1 (_n:Nat) (a0:List Int) (a1:List Int) (b0:Nat → Option (Bool ⊕ Unit)):Nat → Option (Bool ⊕ Unit)
  | i32=>(if i32 < a0.length then (a0[i32]?).bind fun c0=>(a1[i32]?).bind fun d0=>(if c0 = d0 then b0 (i32 + 1) else some (.inl false)) else some (.inr ()))
def slices_Equal_int_int_p (n:Nat) (a0:List Int) (a1:List Int):Option Bool:=
  (if a0.length = a1.length then thn (loopF (slices_Equal_int_int_l1 n a0 a1) n 0) (fun _=>some true) else some false)
theorem slices_Equal_int_int_c (n:Nat) (L:List Nat) (w:World) (_hL:∀ b ∈ L,b < w.heap.size) (a0:List Int) {v0_0:Value} (h0_0:Rep.R w L [v0_0] a0) (a1:List Int) {v1_0:Value} (h1_0:Rep.R w L [v1_0] a1)  {r:Bool} (h:slices_Equal_int_int_p n a0 a1 = some r) :
    Calls Tryd.prog 29 #[v0_0,v1_0] w (Gives w fun _ u=>u = .bool r):=by
 unfold slices_Equal_int_int_p at h
 have hS0:=AC w
 refine AF Tryd.func29 rfl rfl rfl (fun _ cs0 hb0=>?_)
 refine Ae<|Af rfl<|Aa<|Am<|Ae<|Ab rfl ?_
 have hl1:a0.length ≤ 281474976710656:=Rep.lenle h0_0
 refine Ac (FV.len (xs:=a0) Tryd.underlying27 rfl h0_0)<|Ab rfl ?_
 have hl2:a1.length ≤ 281474976710656:=Rep.lenle h1_0
 refine Ac (FV.len (xs:=a1) Tryd.underlying27 rfl h1_0)<|Ac (FV.neqN (i:=a0.length) (j:=a1.length) rfl rfl)<|Aa<|MX.ifn rfl h (fun c3 h=>?_) (fun c3 h=>?_)
 refine Aq<|Am<|Ae<|Ab rfl<|Ac (FV.len (xs:=a0) Tryd.underlying27 rfl h0_0)<|Ab rfl<|Aa<|Au ?_
 obtain ⟨X0,I0,j0⟩:=thn_in h
 refine MX.loop (α:=Nat) (fun i32=>[(0,v0_0),(1,v1_0),(12,vI ((a0.length:Nat):Int)),(13,vI ((i32:Nat):Int))]) (fun i32 g0=>St w g0 []∧Tr w [] g0 []) (fun i32=>i32) 0 I0 ⟨rfl,rfl,rfl,rfl,trivial⟩ ⟨hS0,AM _ _⟩ ?_
 rintro U0 i32 g0 v0 ⟨d0,x0⟩ h
 unfold slices_Equal_int_int_l1 at h
 try dsimp only at h
 refine Ae<|Ac (FV.lssN (i:=i32) (j:=a0.length) rfl rfl)<|Aa<|Am<|AU rfl h (fun q0 h=>?_) (fun q0 h=>?_)
 refine Aq<|Am<|Au<|Ae<|Ab rfl<|Af rfl<|Aa<|Am<|dt 9 tb29_6 (fun b0 c0=>?_)
 refine Ag 0 1 b0 rfl c0 (fun _=>Ah rfl) rfl<|Ag 1 3 b0 rfl c0 (fun _=>Ah rfl) rfl ?_
 obtain ⟨k0,M0,h⟩:=bi h
 have F0:=Rep.mv0 h0_0 d0
 obtain ⟨Q0,V0,y0,C0,t0,J0,E0⟩:=Rep.nth F0 M0
 have z0:t0 = [vI k0]:=J0; subst z0
 refine Ag 2 7 b0 rfl c0 (fun _=>FV.ia 1 i32 rfl y0 rfl rfl C0) rfl<|RD.vx 3 15 256 b0 rfl c0 (AS rfl (E0 0 _ rfl)) rfl<|Ag 4 31 b0 rfl c0 (fun _=>Ah rfl) rfl<|Ag 5 63 b0 rfl c0 (fun _=>Ah rfl) rfl ?_
 obtain ⟨p0,P0,h⟩:=bi h
 have H0:=Rep.mv0 h1_0 d0
 obtain ⟨R0,W0,A0,D0,u0,K0,G0⟩:=Rep.nth H0 P0
 have B0:u0 = [vI p0]:=K0; subst B0
 refine Ag 6 127 b0 rfl c0 (fun _=>FV.ia 1 i32 rfl A0 rfl rfl D0) rfl<|RD.vx 7 255 256 b0 rfl c0 (AS rfl (G0 0 _ rfl)) rfl<|Ag 8 511 b0 rfl c0 (fun _=>FV.neq (i:=k0) (j:=p0) rfl rfl) rfl<|AR (dk b0)<|MX.ifn rfl h (fun s0 h=>?_) (fun s0 h=>?_)
 refine Aq<|Ar<|Al<|Ac (AX (i:=i32) (j:=1) rfl rfl (by omega))<|Ab rfl<|Aa ?_
 exact v0 (i32 + 1) _ _ ⟨rfl,rfl,rfl,rfl,trivial⟩ ⟨d0,x0⟩ h
 refine Ae<|Af rfl<|Aa ?_
 have h:=thn_inl h j0
 refine Ao rfl<|AK hb0 Tryd.func29 rfl rfl ?_
 cases h
 exact d0.gv
 refine AT rfl ?_
 have h:=thn_inr h j0
 try dsimp only at h
 refine Ae<|Af rfl<|Aa<|Ao rfl<|AK hb0 Tryd.func29 rfl rfl ?_
 cases h
 exact d0.gv
 refine Ae<|Af rfl<|Aa<|Ao rfl<|AK hb0 Tryd.func29 rfl rfl ?_
 cases h
 exact hS0.gv
theorem body29:bodyB Tryd.prog 29 = true:=by kernel_rfl
def wardmotelaw23_is_1_p (n:Nat) (a0:List Int) (a1:Int) (a2:List Int):Option Bool:=
  (slices_Equal_int_int_p n a0 a2).bind fun y1=>(if y1 = true then some (decide (a1 = 0)) else some false)
theorem wardmotelaw23_is_1_c (n:Nat) (L:List Nat) (w:World) (hL:∀ b ∈ L,b < w.heap.size) (a0:List Int) {v0_0:Value} (h0_0:Rep.R w L [v0_0] a0) (a1:Int) (a2:List Int) {v2_0:Value} (h2_0:Rep.R w L [v2_0] a2) {p2:Nat} (m2:∀ j9 v9,([v2_0]:List Value)[j9]? = some v9 → w.cell? ((⟨p2,0,none⟩:Addr).add j9) = some v9)  {r:Bool} (h:wardmotelaw23_is_1_p n a0 a1 a2 = some r) :
    Calls Tryd.prog 28 #[v0_0,vI a1,.pointer (some ⟨p2,0,none⟩)] w (Gives w fun _ u=>u = .bool r):=by
 unfold wardmotelaw23_is_1_p at h
 have hS0:=AC w
 refine AF Tryd.func28 rfl rfl rfl (fun _ cs0 hb0=>?_)
 refine Ae<|Af rfl<|Aa<|Ae<|Ab rfl<|Ba rfl ((fun j9 v9 h9=>hS0.ag.cell0 (m2 j9 v9 h9)) 0 _ rfl) ?_
 obtain ⟨y1,hy1,h⟩:=bi h
 refine RG.cq (.bool y1) body29 rfl (e2 rfl rfl) (fun w9 hw9=>slices_Equal_int_int_c n _ w9 (hS0.hL0 hL hw9) a0 (hS0.kd h0_0 hw9) a2 (hS0.kd h2_0 hw9) hy1) rfl<|Ab rfl<|RG.ifb (s:=9) rfl h (fun c2 h=>?_) (fun c2 h=>?_)
 refine AH (Ah rfl)<|AH (FV.eql (i:=a1) (j:=0) rfl rfl)<|RG.pt rfl rfl<|Af rfl<|Aa<|Ao rfl<|AK hb0 Tryd.func28 rfl rfl ?_
 cases h
 exact hS0.gv
 refine Ak<|Ak<|AG rfl rfl<|Af rfl<|Aa<|Ao rfl<|AK hb0 Tryd.func28 rfl rfl ?_
 cases h
 exact hS0.gv
theorem wardmotelaw23_is_c (n:Nat) (L:List Nat) (w:World) (_hL:∀ b ∈ L,b < w.heap.size) (a0:List Int) {v0_0:Value} (h0_0:Rep.R w L [v0_0] a0)  :
    Calls Tryd.prog 12 #[v0_0] w (Gives w fun w' u=>∃ b0:Nat,u = .func (.func 28) #[] #[vP b0]∧St w w' [.cells b0 [v0_0] 27]):=by
 have hS0:=AC w
 refine AF Tryd.func12 rfl rfl rfl (fun _ cs0 hb0=>?_)
 refine Ae<|Ax .plain rfl (AL hS0 rfl (Rep.c1 h0_0)) (fun g0 b0 c0 d0=>?_)
 refine Af rfl<|Aa<|Ae<|Ac (FV.makeFunc (vs:=[]) (us:=[vP b0]) evs_nil (e1 rfl))<|Af rfl<|Aa<|Ao rfl<|Av (u:=.func (.func 28) #[] #[vP b0]) hb0 Tryd.func12 rfl (.cons (.tmp rfl) .nil) rfl ?_
 exact ⟨c0.ag,fun w9 hw9=>⟨b0,rfl,c0.agree hw9⟩⟩
theorem op_TSplits {w:World} {L:List Nat} {cs:List Value} {x:TSplits} (h:Rep.R w L cs x):cs = [vI x.fx,vI x.fw]:=by
  obtain ⟨c0,r0,rfl,h0,h⟩:=h
  have e0:c0 = [vI x.fx]:=h0; subst e0
  have e1:r0 = [vI x.fw]:=h; subst e1
  rfl
theorem mk_TSplits {w:World} {L:List Nat} (a0:Int) (a1:Int):Rep.R w L [vI a0,vI a1] (⟨a0,a1⟩:TSplits):=⟨[vI a0],[vI a1],rfl,rfl,rfl⟩
theorem ex_TSplits {a b:TSplits} (h0:a.fx = b.fx) (h1:a.fw = b.fw):a = b:=congr (congrArg TSplits.mk h0) h1
theorem eqlD_40 (a b:TSplits) (w9:World):(do eqGuard .eql 40 (.tmp 0) (.tmp 0) (.agg #[vI a.fx,vI a.fw]) (.agg #[vI b.fx,vI b.fw]); binOp .eql 40 (.agg #[vI a.fx,vI a.fw]) (.agg #[vI b.fx,vI b.fw]):Sem Value).run Tryd.prog w9 = .ok (.bool (decide (a = b))) w9:=
  eqAgg (ks:=[.int .i64,.int .i64]) (xs:=[vI a.fx,vI a.fw]) (ys:=[vI b.fx,vI b.fw]) (by kernel_rfl) (by kernel_rfl) (by kernel_rfl) rfl rfl ⟨fun h=>by
    simp only [allEq,veq,Bool.and_eq_true,beq_iff_eq,and_true] at h
    obtain ⟨h0,h1⟩:=h
    exact ex_TSplits h0 h1,fun h=>by subst h; simp [allEq,veq]⟩ _ _ w9
def wardmotelaw23_count_1_p (_n:Nat) (a0:TSplits) (a1:Int) (a2:Int) (a3:Int):Option Bool:=
  (if a0 = (⟨a2,a3⟩:TSplits) then some (decide (a1 = 0)) else some false)
theorem wardmotelaw23_count_1_c (n:Nat) (L:List Nat) (w:World) (_hL:∀ b ∈ L,b < w.heap.size) (a0:TSplits) (a1:Int) (a2:Int) {p2:Nat} (m2:∀ j9 v9,([vI a2]:List Value)[j9]? = some v9 → w.cell? ((⟨p2,0,none⟩:Addr).add j9) = some v9) (a3:Int) {p3:Nat} (m3:∀ j9 v9,([vI a3]:List Value)[j9]? = some v9 → w.cell? ((⟨p3,0,none⟩:Addr).add j9) = some v9)  {r:Bool} (h:wardmotelaw23_count_1_p n a0 a1 a2 a3 = some r) :
    Calls Tryd.prog 30 #[.agg #[vI a0.fx,vI a0.fw],vI a1,.pointer (some ⟨p2,0,none⟩),.pointer (some ⟨p3,0,none⟩)] w (Gives w fun _ u=>u = .bool r):=by
 unfold wardmotelaw23_count_1_p at h
 have hS0:=AC w
 refine AF Tryd.func30 rfl rfl rfl (fun _ cs0 hb0=>?_)
 refine Ae<|Ax .plain rfl (AL hS0 rfl rfl) (fun j0 d0 b0 g0=>?_)
 refine Af rfl<|Aa<|Ae<|Ac (AI rfl (b0.memA .hd))<|Ba rfl ((fun j9 v9 h9=>b0.ag.cell0 (m2 j9 v9 h9)) 0 _ rfl)<|Ba rfl ((fun j9 v9 h9=>b0.ag.cell0 (m3 j9 v9 h9)) 0 _ rfl)<|Ac (Bc (vs:=[vI a2,vI a3]) (u:=.agg #[vI a2,vI a3]) (e2 rfl rfl) (fun w9=>by kernel_rfl))<|Ac (FV.eqlV (v:=.agg #[vI a0.fx,vI a0.fw]) (u:=.agg #[vI a2,vI a3]) rfl rfl (eqlD_40 a0 (⟨a2,a3⟩:TSplits)))<|Ab rfl<|RG.ifd (s:=12) rfl h (fun c0 h=>?_) (fun c0 h=>?_)
 refine AH (Ah rfl)<|AH (FV.eql (i:=a1) (j:=0) rfl rfl)<|RG.pt rfl rfl<|Af rfl<|Aa<|Ao rfl<|AK hb0 Tryd.func30 rfl rfl ?_
 cases h
 exact b0.gv
 refine Ak<|Ak<|AG rfl rfl<|Af rfl<|Aa<|Ao rfl<|AK hb0 Tryd.func30 rfl rfl ?_
 cases h
 exact b0.gv
theorem wardmotelaw23_count_c (n:Nat) (L:List Nat) (w:World) (_hL:∀ b ∈ L,b < w.heap.size) (a0:Int) (a1:Int)  :
    Calls Tryd.prog 13 #[vI a0,vI a1] w (Gives w fun w' u=>∃ b0 c0:Nat,u = .func (.func 30) #[] #[vP b0,vP c0]∧St w w' [.cells b0 [vI a0] 3,.cells c0 [vI a1] 3]):=by
 have hS0:=AC w
 refine AF Tryd.func13 rfl rfl rfl (fun _ cs0 hb0=>?_)
 refine Ae<|Ax .plain rfl (AL hS0 rfl rfl) (fun s0 b0 g0 k0=>?_)
 refine Ax .plain rfl (AL g0 rfl rfl) (fun t0 c0 j0 p0=>?_)
 refine Af rfl<|Aa<|Ae<|Ac (FV.makeFunc (vs:=[]) (us:=[vP b0,vP c0]) evs_nil (e2 rfl rfl))<|Af rfl<|Aa<|Ao rfl<|Av (u:=.func (.func 30) #[] #[vP b0,vP c0]) hb0 Tryd.func13 rfl (.cons (.tmp rfl) .nil) rfl ?_
 obtain ⟨d0,q0⟩:=AA j0 (.one (.tl .hd) (.one .hd .done))
 exact ⟨d0.ag,fun w9 hw9=>⟨b0,c0,rfl,d0.agree hw9⟩⟩
def split_Parents_l1 (n:Nat) (j0:List Tparent) (d0:Nat × (List Int) → Option (List Int)):Nat × (List Int) → Option (List Int)
  | (b0,c0)=>(if b0 < j0.length then (j0[b0]?).bind fun g0=>(split_every_p n g0).bind fun p0=>(if p0 = true then (split_name_p n g0).bind fun q0=>(app c0 ([q0]:List Int)).bind fun k0=>d0 (b0 + 1,k0) else d0 (b0 + 1,c0)) else some c0)
def split_Parents_p (n:Nat) (a0:TRoll) (a1:Int):Option ((List Int) × Int):=
  (split_seen_p n a0 a1).bind fun b0=>(if b0.2 = 0 then (split_view_parents_p n b0.1 ([]:List Int)).bind fun d0=>Option.bind (loopF (split_Parents_l1 n d0) n (0,([]:List Int))) (fun c0=>some (c0,(0:Int))) else some (([]:List Int),b0.2))
theorem split_Parents_c (n:Nat) (L:List Nat) (w:World) (hL:∀ b ∈ L,b < w.heap.size) (a0:TRoll) {v0_3:Value} (h0_3:Rep.R w L [v0_3] a0.fo) (a1:Int)  {r:(List Int) × Int} (h:split_Parents_p n a0 a1 = some r) :
    Calls Tryd.prog 14 #[.agg #[vI a0.fh,vI a0.fc,vI a0.fe,v0_3],vI a1] w (Gives w fun w' u=>∃ v0_0:Value,u = .tuple #[v0_0,vI r.2]∧Rep.R w' L [v0_0] r.1):=by
 unfold split_Parents_p at h
 have hS0:=AC w
 refine AF Tryd.func14 rfl rfl rfl (fun _ cs0 hb0=>?_)
 refine Ae<|Ax .plain rfl (AL hS0 rfl rfl) (fun J2 u0 x0 A2=>?_)
 refine Af rfl<|Af rfl<|Aa<|Ae<|Ac (AI rfl (x0.memA .hd))<|Ab rfl ?_
 obtain ⟨b0,b2,h⟩:=bi h
 refine AY (fst:=[]) (cap:=[]) .plain body20 rfl (e2 rfl rfl) (fun w9 hw9=>split_seen_c n _ w9 (x0.hL hL hw9) a0 (x0.km h0_3 hw9) a1 b2) rfl (fun K2 I2 v1 ⟨s0,hu_,U0⟩=>?_)
 subst hu_
 obtain ⟨g1,C2⟩:=x0.agr v1
 refine Ab rfl<|Ac (Aj rfl rfl)<|Ac (Aj rfl rfl)<|Ax .plain rfl (AO [vI 0,vI 0,vI 0,vN,vI 0] g1) (fun U2 v0 k1 P0=>?_)
 have K1:=AE U0 P0
 refine RG.sa [vI b0.1.fj.fh,vI b0.1.fj.fc,vI b0.1.fj.fe,s0,vI b0.1.fm] k1 .hd (o5 rfl rfl rfl (Rep.o1 K1) rfl) (fun V2 p0 t1=>?_)
 refine Af rfl<|Aa<|Am<|Ae<|Ab rfl<|Ac (FV.neq (i:=b0.2) (j:=0) rfl rfl)<|Aa<|MX.ifn rfl h (fun Y0 h=>?_) (fun Y0 h=>?_)
 refine Aq<|Ae<|Ac (AI rfl (p0.memA .hd)) ?_
 have X1:=AN (α:=Int) p0 L
 obtain ⟨A0,g2,h⟩:=bi h
 have M1:=AE U0 (Tt P0 t1)
 refine AY (fst:=[]) (cap:=[]) .plain body21 rfl (e2 rfl rfl) (fun w9 hw9=>split_view_parents_c n _ w9 (p0.hL hL hw9) b0.1 (Aw M1 hw9) ([]:List Int) (Aw X1 hw9) g2) rfl (fun k2 V0 x1 ⟨H2,hu_,F0⟩=>?_)
 subst hu_
 obtain ⟨H0,D2⟩:=p0.agr x1
 refine AW (fst:=[]) (cap:=[]) (vs:=[V0,.func (.func 18) #[] #[],.func (.func 23) #[] #[]]) .plain body17 Tryd.func17 rfl rfl rfl rfl (e3 rfl rfl rfl) rfl (fun z2 y1 F2=>?_)
 refine Ae<|Af rfl<|Aa<|Am<|Ae<|Ab rfl ?_
 have E2:A0.length ≤ 281474976710656:=Rep.lenle F0
 refine Ac (FV.len (xs:=A0) Tryd.underlying51 rfl F0)<|Ab rfl<|Aa<|Au ?_
 have I0:=H0.nilRow 3 (Rep.size Int)
 have u1:=St.nilRowT H0 3 (Rep.size Int)
 have B1:=Az (cs:=[]) (xs:=([]:List Int)) I0 L (AB _ _)
 obtain ⟨G2,P1,D1⟩:=bind_in2 h
 refine MX.loop (α:=Nat × (List Int) × Value × (List Value)) (fun ⟨c0,g0,d0,j0⟩=>[(1,.func (.func 18) #[] #[]),(2,.func (.func 23) #[] #[]),(6,d0),(9,V0),(10,vI ((A0.length:Nat):Int)),(11,vI ((c0:Nat):Int))]) (fun ⟨c0,g0,d0,j0⟩ z0=>St w z0 [.row w.heap.size 3 (Rep.size Int) d0 g0.length j0,.cells v0 [vI b0.1.fj.fh,vI b0.1.fj.fc,vI b0.1.fj.fe,s0,vI b0.1.fm] 61,.cells u0 [vI a0.fh,vI a0.fc,vI a0.fe,v0_3] 25]∧Tr k2 [.row w.heap.size 3 (Rep.size Int) vN (([]:List Int).length) [],.cells v0 [vI b0.1.fj.fh,vI b0.1.fj.fc,vI b0.1.fj.fe,s0,vI b0.1.fm] 61,.cells u0 [vI a0.fh,vI a0.fc,vI a0.fe,v0_3] 25] z0 [.row w.heap.size 3 (Rep.size Int) d0 g0.length j0,.cells v0 [vI b0.1.fj.fh,vI b0.1.fj.fc,vI b0.1.fj.fe,s0,vI b0.1.fm] 61,.cells u0 [vI a0.fh,vI a0.fc,vI a0.fe,v0_3] 25]∧Cells z0 (bl [.row w.heap.size 3 (Rep.size Int) d0 g0.length j0,.cells v0 [vI b0.1.fj.fh,vI b0.1.fj.fc,vI b0.1.fj.fe,s0,vI b0.1.fm] 61,.cells u0 [vI a0.fh,vI a0.fc,vI a0.fe,v0_3] 25] ++ L) j0 g0) (fun ⟨c0,g0,d0,j0⟩=>(c0,g0)) (0,([]:List Int),vN,[]) P1 ⟨rfl,rfl,rfl,rfl,rfl,rfl,trivial⟩ ⟨I0,AM _ _,B1⟩ ?_
 rintro t2 ⟨c0,g0,d0,j0⟩ z0 G0 ⟨y0,D0,E0⟩ h
 unfold split_Parents_l1 at h
 try dsimp only at h
 refine Ae<|Ac (FV.lssN (i:=c0) (j:=A0.length) rfl rfl)<|Aa<|Am<|AU rfl h (fun W0 h=>?_) (fun W0 h=>?_)
 refine Aq<|Am<|Au<|Ae ?_
 obtain ⟨t0,Y1,h⟩:=bi h
 have G1:=AE F0 (Tt u1 D0)
 obtain ⟨s2,x2,C1,E1,y2,R1,F1⟩:=Rep.nth G1 Y1
 obtain rfl:=op_Tparent R1
 refine Ac (FV.ia 3 c0 rfl C1 rfl rfl E1)<|Ac (AI rfl F1)<|Ax .plain rfl (AO [vI 0,vI 0,.int .u8 0] y0) (fun M2 u2 b1 J0=>?_)
 refine RG.sa [vI t0.fv,vI t0.fu,.int .u8 (t0.fl.toNat:Int)] b1 .hd (onesB rfl) (fun P2 q0 K0=>?_)
 refine Aa<|Ae<|Ab rfl<|Ac (AI rfl (q0.memA .hd)) ?_
 obtain ⟨q2,c2,h⟩:=bi h
 refine RG.cq (.bool q2) body18 rfl (e1 rfl) (fun w9 hw9=>split_every_c n _ w9 (q0.hL0 hL hw9) t0 c2) rfl<|Aa<|MX.ifb rfl h (fun X0 h=>?_) (fun X0 h=>?_)
 refine Al<|Ab rfl<|Ab rfl<|Ac (AI rfl (q0.memA .hd)) ?_
 obtain ⟨k0,d2,h⟩:=bi h
 refine RG.cq (vI k0) body23 rfl (e1 rfl) (fun w9 hw9=>split_name_c n _ w9 (q0.hL0 hL hw9) t0 d2) rfl<|Ax .plain rfl (AD (α:=Int) (xs:=([k0]:List Int)) (vs:=[vI k0]) (ds' :=[vI k0]) rfl q0 el27 rfl (e1 rfl) (by kernel_rfl) rfl) (fun Q2 v2 B0 p1=>?_)
 have z1:=Az (cs:=[vI k0]) (xs:=(([k0]:List Int):List Int)) B0 L (Ai (cs:=[vI k0]) (ds:=[]) rfl (AB _ _))
 obtain ⟨p2,Z1,h⟩:=bi h
 have Q0:=Tt J0 (Tt K0 p1)
 have H1:=AJ E0 Q0
 refine RG.doesL .plain rfl (DoesL.app (α:=Int) (ys:=([k0]:List Int)) Z1 B0 (fun _ _=>(.tl (.tl .hd))) el27 rfl rfl H1 (Src.row (α:=Int) B0 .hd z1)) (fun j2 R2 ⟨Z0,c1,q1,A1⟩=>?_)
 refine Af rfl<|Aa<|Ar<|Al<|Ac (AX (i:=c0) (j:=1) rfl rfl (by omega))<|Ab rfl<|Aa ?_
 obtain ⟨d1,M0⟩:=AA c1 (.one (.tl (.tl .hd)) (.one (.tl (.tl .hd)) (.one (.tl (.tl .hd)) .done)))
 have I1:=AJ A1 M0
 have Q1:=Tt Q0 (Tt q1 M0)
 exact G0 (c0 + 1,p2,j2,Z0) _ _ ⟨rfl,rfl,rfl,rfl,rfl,rfl,trivial⟩ ⟨d1,(Tt D0 Q1),I1⟩ h
 refine Aq<|Ar<|Al<|Ac (AX (i:=c0) (j:=1) rfl rfl (by omega))<|Ab rfl<|Aa ?_
 obtain ⟨j1,s1⟩:=AA q0 (.one (.tl .hd) (.one (.tl .hd) (.one (.tl .hd) .done)))
 have R0:=Tt J0 (Tt K0 s1)
 have J1:=AJ E0 R0
 exact G0 (c0 + 1,g0,d0,j0) _ _ ⟨rfl,rfl,rfl,rfl,rfl,rfl,trivial⟩ ⟨j1,(Tt D0 R0),J1⟩ h
 refine AT rfl ?_
 have h:=D1 _ h
 try dsimp only at h
 refine Ae<|Ab rfl<|Af rfl<|Aa<|Ao rfl<|Av (u:=d0) y1 Tryd.func17 rfl (.cons (.tmp rfl) .nil) rfl<|Af rfl<|Af rfl<|Aa<|Ao rfl ?_
 have U1:=AP (α:=Int) y0 .hd E0 hL
 have C0:=St.delS y0 .hd
 have B2:=St.delT y0 .hd
 have V1:=Rep.at_ (α:=Int) (v:=d0) (xs:=g0) C0 L U1
 refine Av hb0 Tryd.func14 rfl (.cons (.tmp rfl) (.cons (.tmp rfl) .nil)) rfl ?_
 cases h
 exact ⟨C0.ag,fun w9 hw9=>⟨d0,rfl,C0.kd V1 hw9⟩⟩
 refine Ae<|Ab rfl<|Af rfl<|Af rfl<|Aa<|Ao rfl ?_
 have W1:=AN (α:=Int) p0 L
 refine Av hb0 Tryd.func14 rfl (.cons (.tmp rfl) (.cons (.tmp rfl) .nil)) rfl ?_
 cases h
 exact ⟨p0.ag,fun w9 hw9=>⟨vN,rfl,p0.kd W1 hw9⟩⟩
def wardmotelaw23_truth_1_p (_n:Nat) (a0:Bool) (a1:Int) (a2:Bool):Option Bool:=
  (if (a0 == a2) = true then some (decide (a1 = 0)) else some false)
theorem wardmotelaw23_truth_1_c (n:Nat) (L:List Nat) (w:World) (_hL:∀ b ∈ L,b < w.heap.size) (a0:Bool) (a1:Int) (a2:Bool) {p2:Nat} (m2:∀ j9 v9,([.bool a2]:List Value)[j9]? = some v9 → w.cell? ((⟨p2,0,none⟩:Addr).add j9) = some v9)  {r:Bool} (h:wardmotelaw23_truth_1_p n a0 a1 a2 = some r) :
    Calls Tryd.prog 31 #[.bool a0,vI a1,.pointer (some ⟨p2,0,none⟩)] w (Gives w fun _ u=>u = .bool r):=by
 unfold wardmotelaw23_truth_1_p at h
 have hS0:=AC w
 refine AF Tryd.func31 rfl rfl rfl (fun _ cs0 hb0=>?_)
 refine Ae<|Af rfl<|Aa<|Ae<|Ab rfl<|Ba rfl ((fun j9 v9 h9=>hS0.ag.cell0 (m2 j9 v9 h9)) 0 _ rfl)<|Ac (FV.eqlB (a:=a0) (b:=a2) Tryd.underlying4 rfl rfl)<|Ab rfl<|RG.ifb (s:=9) rfl h (fun c1 h=>?_) (fun c1 h=>?_)
 refine AH (Ah rfl)<|AH (FV.eql (i:=a1) (j:=0) rfl rfl)<|RG.pt rfl rfl<|Af rfl<|Aa<|Ao rfl<|AK hb0 Tryd.func31 rfl rfl ?_
 cases h
 exact hS0.gv
 refine Ak<|Ak<|AG rfl rfl<|Af rfl<|Aa<|Ao rfl<|AK hb0 Tryd.func31 rfl rfl ?_
 cases h
 exact hS0.gv
theorem wardmotelaw23_truth_c (n:Nat) (L:List Nat) (w:World) (_hL:∀ b ∈ L,b < w.heap.size) (a0:Bool)  :
    Calls Tryd.prog 15 #[.bool a0] w (Gives w fun w' u=>∃ b0:Nat,u = .func (.func 31) #[] #[vP b0]∧St w w' [.cells b0 [.bool a0] 4]):=by
 have hS0:=AC w
 refine AF Tryd.func15 rfl rfl rfl (fun _ cs0 hb0=>?_)
 refine Ae<|Ax .plain rfl (AL hS0 rfl rfl) (fun g0 b0 c0 d0=>?_)
 refine Af rfl<|Aa<|Ae<|Ac (FV.makeFunc (vs:=[]) (us:=[vP b0]) evs_nil (e1 rfl))<|Af rfl<|Aa<|Ao rfl<|Av (u:=.func (.func 31) #[] #[vP b0]) hb0 Tryd.func15 rfl (.cons (.tmp rfl) .nil) rfl ?_
 exact ⟨c0.ag,fun w9 hw9=>⟨b0,rfl,c0.agree hw9⟩⟩
def tb4_4:List (Nat × Nat × Nat):=[(0,1048576,0),(1,2097152,1048576),(0,4194304,2),(6,8388608,4194304),(8,16777216,8388608),(8,33554432,8388608),(58,67108864,52428800),(64,134217728,67108864),(128,268435456,134217728),(384,536870912,402653184),(128,1073741824,134217730),(1664,2147483648,1207959552),(2176,4294967296,2281701376),(2176,8589934592,2281701376),(14976,17179869184,13555990528),(16512,34359738368,17314086912),(49152,68719476736,34359738368),(65536,137438953472,68719476736),(196608,274877906944,206158430208),(65536,549755813888,68719476738),(65536,1099511627776,68719476740),(1900544,2199023255552,1717986918400),(2162688,4398046511104,2267742732288),(2162688,8796093022208,2267742732288),(15007744,17592186044416,13537736916992),(16842752,35184372088832,17660905521152),(50331648,70368744177664,35184372088832),(67108864,140737488355328,70368744177664),(67108864,281474976710656,70368744177666),(67108864,562949953421312,70368744177668),(1006632960,1125899906842624,914793674309632),(1140850688,2251799813685248,1196268651020288),(1140850688,4503599627370496,1196268651020288),(7717519360,9007199254740992,6966505673588736),(8657043456,18014398509481984,9077567998918656),(25769803776,36028797018963968,18014398509481984),(34359738368,72057594037927936,36028797018963968),(34359738368,144115188075855872,36028797018963970),(34359738368,288230376151711744,36028797018963972),(515396075520,576460752303423488,468374361246531584),(584115552256,1152921504606846976,612489549322387456),(584115552256,2305843009213693952,612489549322387456),(3951369912320,4611686018427387904,3566850904877432832),(4432406249472,9223372036854775808,4647714815446351872),(13194139533312,18446744073709551616,9223372036854775808),(17592186044416,36893488147419103232,18446744073709551616),(17592186044416,73786976294838206464,18446744073709551618),(17592186044416,147573952589676412928,18446744073709551620),(263882790666240,295147905179352825856,239807672958224171008),(299067162755072,590295810358705651712,313594649253062377472),(299067162755072,1180591620717411303424,313594649253062377472),(2023101395107840,2361183241434822606848,1826227663297245609984),(2269391999729664,4722366482869645213696,2379629985508532158464),(6755399441055744,9444732965739290427392,4722366482869645213696),(9007199254740992,18889465931478580854784,9444732965739290427408),(27021597764222976,37778931862957161709568,28334198897217871282176),(45035996273704960,75557863725914323419136,47223664828696452136960),(81064793292668928,151115727451828646838272,75557863725914323419136),(144115188075855872,302231454903657293676544,151115727451828646838272),(432345564227567616,604462909807314587353088,453347182355485940514816),(144115188075855872,1208925819614629174706176,151115727451828646838274),(1873497444986126336,2417851639229258349412352,1360041547066457821544448),(2449958197289549824,4835703278458516698824704,2568967366681086996250624),(2449958197289549824,9671406556917033397649408,2568967366681086996250624),(16861477004875137024,19342813113834066795298816,15262688472634693330665472),(18590859261785407488,38685626227668133590597632,19493928841285895442137088),(55340232221128654848,77371252455336267181195264,38685626227668133590597632),(73786976294838206464,154742504910672534362390528,77371252455336267181195328),(221360928884514619392,309485009821345068724781056,232113757366008801543585792),(368934881474191032320,618970019642690137449562112,386856262276681335905976320),(1180591620717411303423,1,618970019642690137449562112)]
theorem el28:ElT Tryd.prog 28 3 (Rep.size Int) 8 (vI 0) [vI 0]:=⟨Tryd.underlying28,by kernel_rfl,rfl,rfl,rfl,rfl⟩
theorem body5:bodyB Tryd.prog 5 = true:=by kernel_rfl
theorem body6:bodyB Tryd.prog 6 = true:=by kernel_rfl
theorem body7:bodyB Tryd.prog 7 = true:=by kernel_rfl
theorem body8:bodyB Tryd.prog 8 = true:=by kernel_rfl
theorem body10:bodyB Tryd.prog 10 = true:=by kernel_rfl
theorem body11:bodyB Tryd.prog 11 = true:=by kernel_rfl
theorem body12:bodyB Tryd.prog 12 = true:=by kernel_rfl
theorem body13:bodyB Tryd.prog 13 = true:=by kernel_rfl
theorem body14:bodyB Tryd.prog 14 = true:=by kernel_rfl
theorem body15:bodyB Tryd.prog 15 = true:=by kernel_rfl
theorem body28:bodyB Tryd.prog 28 = true:=by kernel_rfl
theorem body30:bodyB Tryd.prog 30 = true:=by kernel_rfl
theorem body31:bodyB Tryd.prog 31 = true:=by kernel_rfl
def wardmotelaw23_works_p (n:Nat):Option Bool:=
  (wardmotelaw23_four_p n).bind fun y1=>(split_Keeps_p n y1 ([(0:Int),(0:Int),(0:Int),(1:Int)]:List Int) (2:Int) (0:Int) (3:Int)).bind fun y0=>(split_Parents_p n y1 (1:Int)).bind fun z0=>(split_Parents_p n y1 (0:Int)).bind fun k0=>(wardmotelaw23_is_1_p n k0.1 k0.2 ([(2:Int),(5:Int)]:List Int)).bind fun A0=>(if A0 = true then (split_People_p n y1 (0:Int)).bind fun p0=>(wardmotelaw23_is_1_p n p0.1 p0.2 ([(70:Int),(30:Int)]:List Int)).bind fun q0=>(if q0 = true then (split_Pieces_p n y1 ([(0:Int),(0:Int),(0:Int),(1:Int)]:List Int) (2:Int) (0:Int)).bind fun b0=>(wardmotelaw23_is_1_p n b0.1 b0.2 ([(2:Int),(1:Int)]:List Int)).bind fun s0=>(if s0 = true then (split_Splits_p n y1 ([(0:Int),(0:Int),(0:Int),(1:Int)]:List Int) (2:Int) (0:Int)).bind fun c0=>(wardmotelaw23_count_1_p n c0.1 c0.2 (1:Int) (3:Int)).bind fun t0=>(if t0 = true then (split_Keeps_p n y1 ([(0:Int),(0:Int),(0:Int),(1:Int)]:List Int) (2:Int) (0:Int) (2:Int)).bind fun d0=>(wardmotelaw23_truth_1_p n d0.1 d0.2 false).bind fun u0=>(if u0 = true then (split_Keeps_p n y1 ([(0:Int),(0:Int),(0:Int),(1:Int)]:List Int) (2:Int) (0:Int) (5:Int)).bind fun g0=>(wardmotelaw23_truth_1_p n g0.1 g0.2 true).bind fun v0=>(if v0 = true then (if y0.2 = 4 then (split_Forced_p n y1 (0:Int) (50:Int)).bind fun j0=>(wardmotelaw23_is_1_p n j0.1 j0.2 ([(2:Int)]:List Int)).bind fun x0=>(if x0 = true then some (decide (z0.2 = 2)) else some false) else some false) else some false) else some false) else some false) else some false) else some false) else some false)
theorem wardmotelaw23_works_c (n:Nat) (L:List Nat) (w:World) (hL:∀ b ∈ L,b < w.heap.size)  {r:Bool} (h:wardmotelaw23_works_p n = some r) :
    Calls Tryd.prog 4 #[] w (Gives w fun _ u=>u = .bool r):=by
 unfold wardmotelaw23_works_p at h
 have hS0:=AC w
 refine AF Tryd.func4 rfl rfl rfl (fun _ cs0 hb0=>?_)
 refine Ae<|Af rfl<|Aa<|Ae ?_
 obtain ⟨y1,hy1,h⟩:=bi h
 refine AY (fst:=[]) (cap:=[]) .plain body5 rfl evs_nil (fun w9 hw9=>own_gives (b0:=w.heap.size) (wardmotelaw23_four_c n _ w9 (hS0.hL hL hw9)  hy1) hw9 (Nat.le_trans hS0.ag.size hw9.size)) rfl (fun w2 vu3 hag4 ⟨v9,Q2,hu6,s5,g3⟩=>?_)
 subst hu6
 have hS7:=own_push hS0 s5
 have hT8:=own_tr hS0 s5
 have k3:=Az (cs:=Q2) (xs:=(y1.fo:List TUnit)) hS7 L (own_cells g3)
 refine Ax .plain rfl (AD (α:=Int) (xs:=([(0:Int),(0:Int),(0:Int),(1:Int)]:List Int)) (vs:=[vI 0,vI 0,vI 0,vI 1]) (ds' :=[vI 0,vI 0,vI 0,vI 1]) rfl hS7 el28 rfl (e4 rfl rfl rfl rfl) (by kernel_rfl) rfl) (fun Y5 E2 C1 R2=>?_)
 have X1:=Az (cs:=[vI 0,vI 0,vI 0,vI 1]) (xs:=(([(0:Int),(0:Int),(0:Int),(1:Int)]:List Int):List Int)) C1 L (Ai (cs:=[vI 0]) (ds:=[vI 0,vI 0,vI 1]) rfl (Ai (cs:=[vI 0]) (ds:=[vI 0,vI 1]) rfl (Ai (cs:=[vI 0]) (ds:=[vI 1]) rfl (Ai (cs:=[vI 1]) (ds:=[]) rfl (AB _ _)))))
 refine Ax .plain rfl (AO [vI 0,vI 0,vI 0,vN] C1) (fun c6 k5 E1 j1=>?_)
 refine RG.sa [vI y1.fh,vI y1.fc,vI y1.fe,v9] E1 .hd (o4 rfl rfl rfl (St.o1 (α:=TUnit) E1 (.tl (.tl .hd)))) (fun g6 q0 k1=>?_)
 refine Af rfl<|Aa<|Ae<|Ac (AI rfl (q0.memA .hd))<|Ab rfl ?_
 obtain ⟨v1,G4,h⟩:=bi h
 have Q3:=Tt R2 (Tt j1 k1)
 have Y1:=AJ k3 Q3
 have G3:=AJ X1 (Tt j1 k1)
 refine RG.cq (.tuple #[.bool v1.1,vI v1.2]) body7 rfl (e5 rfl rfl rfl rfl rfl) (fun w9 hw9=>split_Keeps_c n _ w9 (q0.hL0 hL hw9) y1 (Aw (St.lend (α:=TUnit) (L:=L) q0 (.tl (.tl .hd)) Y1 hL) hw9) ([(0:Int),(0:Int),(0:Int),(1:Int)]:List Int) (Aw (St.lend (α:=Int) (L:=L) q0 (.tl .hd) G3 hL) hw9) (2:Int) (0:Int) (3:Int) G4) rfl<|Ab rfl<|Ac (Aj rfl rfl)<|Ac (Aj rfl rfl)<|Af rfl<|Af rfl<|Aa<|Ae<|Ac (AI rfl (q0.memA .hd)) ?_
 have Z3:=AP (α:=TUnit) q0 (.tl (.tl .hd)) Y1 hL
 have Z0:=St.delS q0 (.tl (.tl .hd))
 have X2:=St.delT q0 (.tl (.tl .hd))
 have s0:=Rep.at_ (α:=TUnit) (v:=v9) (xs:=y1.fo) Z0 L Z3
 obtain ⟨g5,H4,h⟩:=bi h
 refine AY (fst:=[]) (cap:=[]) .plain body14 rfl (e2 rfl rfl) (fun w9 hw9=>split_Parents_c n _ w9 (Z0.hL hL hw9) y1 (Aw s0 hw9) (1:Int) H4) rfl (fun j6 Q5 c3 ⟨D5,hu_,z5⟩=>?_)
 subst hu_
 obtain ⟨F1,Q1⟩:=Z0.agr c3
 refine Ab rfl<|Ac (Aj rfl rfl)<|Ac (Aj rfl rfl)<|Af rfl<|Af rfl<|Aa<|Am<|dt 71 tb4_4 (fun c0 d0=>?_)
 refine RD.vx 2 4 2361183241434822606840 c0 rfl d0 (AI rfl (F1.memA .hd)) rfl<|RD.nu 0 5 c0 rfl .plain rfl (AD (α:=Int) (xs:=([(2:Int),(5:Int)]:List Int)) (vs:=[vI 2,vI 5]) (ds' :=[vI 2,vI 5]) rfl F1 el27 rfl (e2 rfl rfl) (by kernel_rfl) rfl) (fun V4 A1 K0 R1=>?_)
 have q3:=Az (cs:=[vI 2,vI 5]) (xs:=(([(2:Int),(5:Int)]:List Int):List Int)) K0 L (Ai (cs:=[vI 2]) (ds:=[vI 5]) rfl (Ai (cs:=[vI 5]) (ds:=[]) rfl (AB _ _)))
 have b4:=AP (α:=Int) K0 .hd q3 hL
 have M0:=St.delS K0 .hd
 have U1:=St.delT K0 .hd
 have p2:=Rep.at_ (α:=Int) (v:=(vS A1 2)) (xs:=([(2:Int),(5:Int)]:List Int)) M0 L b4
 refine RD.cl 1 7 c0 rfl .plain body12 rfl (e1 rfl) (fun w9 hw9=>AQ (wardmotelaw23_is_c n _ w9 (M0.hL hL hw9) ([(2:Int),(5:Int)]:List Int) (Aw p2 hw9)) fun (w8:World) (u8:Value) ⟨b0_,hu_,s_⟩=>(⟨b0_,hu_,s_.from hw9⟩:∃ E0:Nat,u8 = Value.func (.func 28) #[] #[vP E0]∧St V4 w8 [.cells E0 [(vS A1 2)] 27])) rfl (fun k6 R5 x5 ⟨E0,s4,y2⟩=>?_)
 subst s4
 have G1:=mk_push1 M0 y2
 have p1:=mk_tr1 M0 y2
 obtain ⟨C2,I4,h⟩:=bi h
 have d2:=Tt Q1 (Tt R1 (Tt U1 p1))
 have H3:=AE s0 d2
 refine RD.cl 3 15 c0 rfl .plain body14 rfl (e2 rfl rfl) (fun w9 hw9=>split_Parents_c n _ w9 (G1.hL hL hw9) y1 (Aw H3 hw9) (0:Int) I4) rfl (fun p6 U5 d3 ⟨E5,hu_,c4⟩=>?_)
 subst hu_
 obtain ⟨u0,q1⟩:=G1.agr d3
 refine Ag 4 31 c0 rfl d0 (fun _=>Aj rfl rfl) rfl<|Ag 5 63 c0 rfl d0 (fun _=>Aj rfl rfl) rfl ?_
 obtain ⟨j5,J4,h⟩:=bi h
 have I3:=AE p2 (Tt p1 q1)
 refine RD.callq (i:=6) (m' :=127) (W:=2361183241434822606720) (tk c0) rfl d0 (v:=.bool j5) (fst:=[]) (cap:=[vP E0]) .plain body28 rfl (e2 rfl rfl) (fun w9 hw9=>wardmotelaw23_is_1_c n _ w9 (u0.hL0 hL hw9) C2.1 (u0.kd c4 hw9) C2.2 ([(2:Int),(5:Int)]:List Int) (u0.kd I3 hw9) (fun j9 v9 h9=>hw9.cell0 ((u0.memA .hd) j9 v9 h9)) J4) rfl<|Ag 7 255 c0 rfl d0 (fun _=>Ah rfl) rfl<|RD.ifb (s:=27) rfl h (fun P2 h=>?_) (fun P2 h=>?_)
 refine RD.val (i:=10) (m' :=1279) (W:=2361183241434822604800) (tk c0) rfl d0 (.yes rfl rfl) (AI rfl (u0.memA (.tl .hd))) rfl<|RD.nu 8 1535 c0 rfl (.yes rfl rfl) rfl (AD (α:=Int) (xs:=([(70:Int),(30:Int)]:List Int)) (vs:=[vI 70,vI 30]) (ds' :=[vI 70,vI 30]) rfl u0 el27 rfl (e2 rfl rfl) (by kernel_rfl) rfl) (fun W4 B1 P0 V1=>?_)
 have s3:=Az (cs:=[vI 70,vI 30]) (xs:=(([(70:Int),(30:Int)]:List Int):List Int)) P0 L (Ai (cs:=[vI 70]) (ds:=[vI 30]) rfl (Ai (cs:=[vI 30]) (ds:=[]) rfl (AB _ _)))
 have d4:=AP (α:=Int) P0 .hd s3 hL
 have Q0:=St.delS P0 .hd
 have W1:=St.delT P0 .hd
 have q2:=Rep.at_ (α:=Int) (v:=(vS B1 2)) (xs:=([(70:Int),(30:Int)]:List Int)) Q0 L d4
 refine RD.cl 9 2047 c0 rfl (.yes rfl rfl) body12 rfl (e1 rfl) (fun w9 hw9=>AQ (wardmotelaw23_is_c n _ w9 (Q0.hL hL hw9) ([(70:Int),(30:Int)]:List Int) (Aw q2 hw9)) fun (w8:World) (u8:Value) ⟨b0_,hu_,s_⟩=>(⟨b0_,hu_,s_.from hw9⟩:∃ F0:Nat,u8 = Value.func (.func 28) #[] #[vP F0]∧St W4 w8 [.cells F0 [(vS B1 2)] 27])) rfl (fun q6 V5 y5 ⟨F0,t4,z2⟩=>?_)
 subst t4
 have H1:=mk_push1 Q0 z2
 have s1:=mk_tr1 Q0 z2
 obtain ⟨D2,K4,h⟩:=bi h
 have g2:=Tt d2 (Tt q1 (Tt V1 (Tt W1 s1)))
 have J3:=AE s0 g2
 refine RD.cl 11 4095 c0 rfl (.yes rfl rfl) body10 rfl (e2 rfl rfl) (fun w9 hw9=>split_People_c n _ w9 (H1.hL hL hw9) y1 (Aw J3 hw9) (0:Int) K4) rfl (fun W5 F5 Y2 ⟨A5,hu_,R3⟩=>?_)
 subst hu_
 obtain ⟨t0,b1⟩:=H1.agr Y2
 refine Bb 12 8191 c0 rfl d0 (.yes rfl rfl) (fun _=>Aj rfl rfl) rfl<|Bb 13 16383 c0 rfl d0 (.yes rfl rfl) (fun _=>Aj rfl rfl) rfl ?_
 obtain ⟨X4,u4,h⟩:=bi h
 have t3:=AE q2 (Tt s1 b1)
 refine RD.callq (i:=14) (m' :=32767) (W:=2361183241434822574080) (tk c0) rfl d0 (v:=.bool X4) (fst:=[]) (cap:=[vP F0]) (.yes rfl rfl) body28 rfl (e2 rfl rfl) (fun w9 hw9=>wardmotelaw23_is_1_c n _ w9 (t0.hL0 hL hw9) D2.1 (t0.kd R3 hw9) D2.2 ([(70:Int),(30:Int)]:List Int) (t0.kd t3 hw9) (fun j9 v9 h9=>hw9.cell0 ((t0.memA .hd) j9 v9 h9)) u4) rfl<|Ag 15 65535 c0 rfl d0 (fun _=>FV.pick_t rfl rfl) rfl<|Ag 16 131071 c0 rfl d0 (fun _=>Ah rfl) rfl<|RD.ifb (s:=36) rfl h (fun F2 h=>?_) (fun F2 h=>?_)
 refine RD.val (i:=19) (m' :=655359) (W:=2361183241434820509696) (tk c0) rfl d0 (.yes rfl rfl) (AI rfl (t0.memA (.tl (.tl .hd)))) rfl<|Bb 20 1703935 c0 rfl d0 (.yes rfl rfl) (fun _=>Ah rfl) rfl<|RD.nu 17 1835007 c0 rfl (.yes rfl rfl) rfl (AD (α:=Int) (xs:=([(2:Int),(1:Int)]:List Int)) (vs:=[vI 2,vI 1]) (ds' :=[vI 2,vI 1]) rfl t0 el27 rfl (e2 rfl rfl) (by kernel_rfl) rfl) (fun M4 x1 G0 I1=>?_)
 have j3:=Az (cs:=[vI 2,vI 1]) (xs:=(([(2:Int),(1:Int)]:List Int):List Int)) G0 L (Ai (cs:=[vI 2]) (ds:=[vI 1]) rfl (Ai (cs:=[vI 1]) (ds:=[]) rfl (AB _ _)))
 have U3:=AP (α:=Int) G0 .hd j3 hL
 have H0:=St.delS G0 .hd
 have J1:=St.delT G0 .hd
 have j2:=Rep.at_ (α:=Int) (v:=(vS x1 2)) (xs:=([(2:Int),(1:Int)]:List Int)) H0 L U3
 refine RD.cl 18 2097151 c0 rfl (.yes rfl rfl) body12 rfl (e1 rfl) (fun w9 hw9=>AQ (wardmotelaw23_is_c n _ w9 (H0.hL hL hw9) ([(2:Int),(1:Int)]:List Int) (Aw j2 hw9)) fun (w8:World) (u8:Value) ⟨b0_,hu_,s_⟩=>(⟨b0_,hu_,s_.from hw9⟩:∃ y0:Nat,u8 = Value.func (.func 28) #[] #[vP y0]∧St M4 w8 [.cells y0 [(vS x1 2)] 27])) rfl (fun X5 G5 p5 ⟨y0,g4,s2⟩=>?_)
 subst g4
 have X0:=mk_push1 H0 s2
 have c1:=mk_tr1 H0 s2
 have K3:=Tt j1 (Tt k1 (Tt X2 (Tt Q1 (Tt R1 (Tt U1 (Tt p1 (Tt q1 (Tt V1 (Tt W1 (Tt s1 (Tt b1 (Tt I1 (Tt J1 c1)))))))))))))
 have u3:=AJ X1 K3
 have V3:=AP (α:=Int) X0 (.tl (.tl (.tl (.tl .hd)))) u3 hL
 have Y0:=St.delS X0 (.tl (.tl (.tl (.tl .hd))))
 have K1:=St.delT X0 (.tl (.tl (.tl (.tl .hd))))
 have U0:=Rep.at_ (α:=Int) (v:=(vS E2 4)) (xs:=([(0:Int),(0:Int),(0:Int),(1:Int)]:List Int)) Y0 L V3
 obtain ⟨A2,v4,h⟩:=bi h
 have Z1:=Tt g2 (Tt b1 (Tt I1 (Tt J1 (Tt c1 K1))))
 have v3:=AE s0 Z1
 refine RD.cl 21 4194303 c0 rfl (.yes rfl rfl) body6 rfl (e4 rfl rfl rfl rfl) (fun w9 hw9=>split_Pieces_c n _ w9 (Y0.hL hL hw9) y1 (Aw v3 hw9) ([(0:Int),(0:Int),(0:Int),(1:Int)]:List Int) (Aw U0 hw9) (2:Int) (0:Int) v4) rfl (fun P4 H5 Z2 ⟨B5,hu_,W3⟩=>?_)
 subst hu_
 obtain ⟨k0,R0⟩:=Y0.agr Z2
 refine Bb 22 8388607 c0 rfl d0 (.yes rfl rfl) (fun _=>Aj rfl rfl) rfl<|Bb 23 16777215 c0 rfl d0 (.yes rfl rfl) (fun _=>Aj rfl rfl) rfl ?_
 obtain ⟨Y4,x4,h⟩:=bi h
 have M3:=Tt c1 (Tt K1 R0)
 have x3:=AE j2 M3
 refine RD.callq (i:=24) (m' :=33554431) (W:=2361183241434789052416) (tk c0) rfl d0 (v:=.bool Y4) (fst:=[]) (cap:=[vP y0]) (.yes rfl rfl) body28 rfl (e2 rfl rfl) (fun w9 hw9=>wardmotelaw23_is_1_c n _ w9 (k0.hL0 hL hw9) A2.1 (k0.kd W3 hw9) A2.2 ([(2:Int),(1:Int)]:List Int) (k0.kd x3 hw9) (fun j9 v9 h9=>hw9.cell0 ((k0.memA .hd) j9 v9 h9)) x4) rfl<|Ag 25 67108863 c0 rfl d0 (fun _=>FV.pick_t rfl rfl) rfl<|Ag 26 134217727 c0 rfl d0 (fun _=>Ah rfl) rfl<|RD.ifb (s:=46) rfl h (fun G2 h=>?_) (fun G2 h=>?_)
 refine RD.val (i:=28) (m' :=402653183) (W:=2361183241433748865024) (tk c0) rfl d0 (.yes rfl rfl) (AI rfl (k0.memA (.tl (.tl (.tl .hd))))) rfl<|Bb 29 939524095 c0 rfl d0 (.yes rfl rfl) (fun _=>Ah rfl) rfl<|RD.cl 27 1073741823 c0 rfl (.yes rfl rfl) body13 rfl (e2 rfl rfl) (fun w9 hw9=>AQ (wardmotelaw23_count_c n _ w9 (k0.hL hL hw9) (1:Int) (3:Int)) fun (w8:World) (u8:Value) ⟨b0_,b1_,hu_,s_⟩=>(⟨b0_,b1_,hu_,s_.from hw9⟩:∃ z0 A0:Nat,u8 = Value.func (.func 30) #[] #[vP z0,vP A0]∧St P4 w8 [.cells z0 [vI 1] 3,.cells A0 [vI 3] 3])) rfl (fun Q4 I5 q5 ⟨z0,A0,j4,t2⟩=>?_)
 subst j4
 have g0:=mk_push2 k0 t2
 have d1:=mk_tr2 k0 t2
 obtain ⟨x0,y4,h⟩:=bi h
 have u1:=Tt Z1 (Tt R0 d1)
 have y3:=AE s0 u1
 have z3:=AE U0 (Tt R0 d1)
 refine RD.callq (i:=30) (m' :=2147483647) (W:=2361183241432675123200) (tk c0) rfl d0 (v:=.tuple #[.agg #[vI x0.1.fx,vI x0.1.fw],vI x0.2]) (fst:=[]) (cap:=[]) (.yes rfl rfl) body11 rfl (e4 rfl rfl rfl rfl) (fun w9 hw9=>split_Splits_c n _ w9 (g0.hL0 hL hw9) y1 (g0.kd y3 hw9) ([(0:Int),(0:Int),(0:Int),(1:Int)]:List Int) (g0.kd z3 hw9) (2:Int) (0:Int) y4) rfl<|Bb 31 4294967295 c0 rfl d0 (.yes rfl rfl) (fun _=>Aj rfl rfl) rfl<|Bb 32 8589934591 c0 rfl d0 (.yes rfl rfl) (fun _=>Aj rfl rfl) rfl ?_
 obtain ⟨Z4,z4,h⟩:=bi h
 refine RD.callq (i:=33) (m' :=17179869183) (W:=2361183241417642737664) (tk c0) rfl d0 (v:=.bool Z4) (fst:=[]) (cap:=[vP z0,vP A0]) (.yes rfl rfl) body30 rfl (e2 rfl rfl) (fun w9 hw9=>wardmotelaw23_count_1_c n _ w9 (g0.hL0 hL hw9) x0.1 x0.2 (1:Int) (fun j9 v9 h9=>hw9.cell0 ((g0.memA .hd) j9 v9 h9)) (3:Int) (fun j9 v9 h9=>hw9.cell0 ((g0.memA (.tl .hd)) j9 v9 h9)) z4) rfl<|Ag 34 34359738367 c0 rfl d0 (fun _=>FV.pick_t rfl rfl) rfl<|Ag 35 68719476735 c0 rfl d0 (fun _=>Ah rfl) rfl<|RD.ifb (s:=55) rfl h (fun H2 h=>?_) (fun H2 h=>?_)
 refine RD.val (i:=37) (m' :=206158430207) (W:=2361183240885066792960) (tk c0) rfl d0 (.yes rfl rfl) (AI rfl (g0.memA (.tl (.tl (.tl (.tl (.tl .hd))))))) rfl<|Bb 38 481036337151 c0 rfl d0 (.yes rfl rfl) (fun _=>Ah rfl) rfl<|RD.cl 36 549755813887 c0 rfl (.yes rfl rfl) body15 rfl (e1 rfl) (fun w9 hw9=>AQ (wardmotelaw23_truth_c n _ w9 (g0.hL hL hw9) false) fun (w8:World) (u8:Value) ⟨b0_,hu_,s_⟩=>(⟨b0_,hu_,s_.from hw9⟩:∃ B0:Nat,u8 = Value.func (.func 31) #[] #[vP B0]∧St Q4 w8 [.cells B0 [.bool false] 4])) rfl (fun R4 J5 t5 ⟨B0,k4,u2⟩=>?_)
 subst k4
 have j0:=mk_push1 g0 u2
 have g1:=mk_tr1 g0 u2
 obtain ⟨V0,A4,h⟩:=bi h
 have A3:=AE s0 (Tt u1 g1)
 have b2:=Tt R0 (Tt d1 g1)
 have B3:=AE U0 b2
 refine RD.callq (i:=39) (m' :=1099511627775) (W:=2361183240335310979072) (tk c0) rfl d0 (v:=.tuple #[.bool V0.1,vI V0.2]) (fst:=[]) (cap:=[]) (.yes rfl rfl) body7 rfl (e5 rfl rfl rfl rfl rfl) (fun w9 hw9=>split_Keeps_c n _ w9 (j0.hL0 hL hw9) y1 (j0.kd A3 hw9) ([(0:Int),(0:Int),(0:Int),(1:Int)]:List Int) (j0.kd B3 hw9) (2:Int) (0:Int) (2:Int) A4) rfl<|Bb 40 2199023255551 c0 rfl d0 (.yes rfl rfl) (fun _=>Aj rfl rfl) rfl<|Bb 41 4398046511103 c0 rfl d0 (.yes rfl rfl) (fun _=>Aj rfl rfl) rfl ?_
 obtain ⟨b5,B4,h⟩:=bi h
 refine RD.callq (i:=42) (m' :=8796093022207) (W:=2361183232638729584640) (tk c0) rfl d0 (v:=.bool b5) (fst:=[]) (cap:=[vP B0]) (.yes rfl rfl) body31 rfl (e2 rfl rfl) (fun w9 hw9=>wardmotelaw23_truth_1_c n _ w9 (j0.hL0 hL hw9) V0.1 V0.2 false (fun j9 v9 h9=>hw9.cell0 ((j0.memA .hd) j9 v9 h9)) B4) rfl<|Ag 43 17592186044415 c0 rfl d0 (fun _=>FV.pick_t rfl rfl) rfl<|Ag 44 35184372088831 c0 rfl d0 (fun _=>Ah rfl) rfl<|RD.ifb (s:=64) rfl h (fun I2 h=>?_) (fun I2 h=>?_)
 refine RD.val (i:=46) (m' :=105553116266495) (W:=2361182959959845896192) (tk c0) rfl d0 (.yes rfl rfl) (AI rfl (j0.memA (.tl (.tl (.tl (.tl (.tl (.tl .hd)))))))) rfl<|Bb 47 246290604621823 c0 rfl d0 (.yes rfl rfl) (fun _=>Ah rfl) rfl<|RD.cl 45 281474976710655 c0 rfl (.yes rfl rfl) body15 rfl (e1 rfl) (fun w9 hw9=>AQ (wardmotelaw23_truth_c n _ w9 (j0.hL hL hw9) true) fun (w8:World) (u8:Value) ⟨b0_,hu_,s_⟩=>(⟨b0_,hu_,s_.from hw9⟩:∃ C0:Nat,u8 = Value.func (.func 31) #[] #[vP C0]∧St R4 w8 [.cells C0 [.bool true] 4])) rfl (fun Z5 K5 u5 ⟨C0,p4,v2⟩=>?_)
 subst p4
 have p0:=mk_push1 j0 v2
 have M1:=mk_tr1 j0 v2
 obtain ⟨W0,C4,h⟩:=bi h
 have c2:=Tt u1 (Tt g1 M1)
 have C3:=AE s0 c2
 have D3:=AE U0 (Tt b2 M1)
 refine RD.callq (i:=48) (m' :=562949953421311) (W:=2361182678484869185536) (tk c0) rfl d0 (v:=.tuple #[.bool W0.1,vI W0.2]) (fst:=[]) (cap:=[]) (.yes rfl rfl) body7 rfl (e5 rfl rfl rfl rfl rfl) (fun w9 hw9=>split_Keeps_c n _ w9 (p0.hL0 hL hw9) y1 (p0.kd C3 hw9) ([(0:Int),(0:Int),(0:Int),(1:Int)]:List Int) (p0.kd D3 hw9) (2:Int) (0:Int) (5:Int) C4) rfl<|Bb 49 1125899906842623 c0 rfl d0 (.yes rfl rfl) (fun _=>Aj rfl rfl) rfl<|Bb 50 2251799813685247 c0 rfl d0 (.yes rfl rfl) (fun _=>Aj rfl rfl) rfl ?_
 obtain ⟨c5,D4,h⟩:=bi h
 refine RD.callq (i:=51) (m' :=4503599627370495) (W:=2361178737835195236352) (tk c0) rfl d0 (v:=.bool c5) (fst:=[]) (cap:=[vP C0]) (.yes rfl rfl) body31 rfl (e2 rfl rfl) (fun w9 hw9=>wardmotelaw23_truth_1_c n _ w9 (p0.hL0 hL hw9) W0.1 W0.2 true (fun j9 v9 h9=>hw9.cell0 ((p0.memA .hd) j9 v9 h9)) D4) rfl<|Ag 52 9007199254740991 c0 rfl d0 (fun _=>FV.pick_t rfl rfl) rfl<|Ag 53 18014398509481983 c0 rfl d0 (fun _=>Ah rfl) rfl<|RD.ifb (s:=73) rfl h (fun J2 h=>?_) (fun J2 h=>?_)
 refine Bb 54 36028797018963967 c0 rfl d0 (.yes rfl rfl) (fun _=>Ah rfl) rfl<|Bb 55 72057594037927935 c0 rfl d0 (.yes rfl rfl) (fun _=>FV.eql (i:=v1.2) (j:=4) rfl rfl) rfl<|Ag 56 144115188075855871 c0 rfl d0 (fun _=>FV.pick_t rfl rfl) rfl<|Ag 57 288230376151711743 c0 rfl d0 (fun _=>Ah rfl) rfl<|RD.ifd (s:=77) rfl h (fun K2 h=>?_) (fun K2 h=>?_)
 refine RD.val (i:=60) (m' :=1441151880758558719) (W:=2358877398425608912896) (tk c0) rfl d0 (.yes rfl rfl) (AI rfl (p0.memA (.tl (.tl (.tl (.tl (.tl (.tl (.tl .hd))))))))) rfl<|RD.nu 58 1729382256910270463 c0 rfl (.yes rfl rfl) rfl (AD (α:=Int) (xs:=([(2:Int)]:List Int)) (vs:=[vI 2]) (ds' :=[vI 2]) rfl p0 el27 rfl (e1 rfl) (by kernel_rfl) rfl) (fun U4 z1 I0 U2=>?_)
 have p3:=Az (cs:=[vI 2]) (xs:=(([(2:Int)]:List Int):List Int)) I0 L (Ai (cs:=[vI 2]) (ds:=[]) rfl (AB _ _))
 have X3:=AP (α:=Int) I0 .hd p3 hL
 have J0:=St.delS I0 .hd
 have V2:=St.delT I0 .hd
 have k2:=Rep.at_ (α:=Int) (v:=(vS z1 1)) (xs:=([(2:Int)]:List Int)) J0 L X3
 refine RD.cl 59 2305843009213693951 c0 rfl (.yes rfl rfl) body12 rfl (e1 rfl) (fun w9 hw9=>AQ (wardmotelaw23_is_c n _ w9 (J0.hL hL hw9) ([(2:Int)]:List Int) (Aw k2 hw9)) fun (w8:World) (u8:Value) ⟨b0_,hu_,s_⟩=>(⟨b0_,hu_,s_.from hw9⟩:∃ D0:Nat,u8 = Value.func (.func 28) #[] #[vP D0]∧St U4 w8 [.cells D0 [(vS z1 1)] 27])) rfl (fun b6 M5 v5 ⟨D0,q4,x2⟩=>?_)
 subst q4
 have D1:=mk_push1 J0 x2
 have P1:=mk_tr1 J0 x2
 obtain ⟨B2,E4,h⟩:=bi h
 have P3:=Tt c2 (Tt U2 (Tt V2 P1))
 have E3:=AE s0 P3
 refine RD.cl 61 4611686018427387903 c0 rfl (.yes rfl rfl) body8 rfl (e3 rfl rfl rfl) (fun w9 hw9=>split_Forced_c n _ w9 (D1.hL hL hw9) y1 (Aw E3 hw9) (0:Int) (50:Int) E4) rfl (fun d6 P5 b3 ⟨C5,hu_,Y3⟩=>?_)
 subst hu_
 obtain ⟨v0,W2⟩:=D1.agr b3
 refine Bb 62 9223372036854775807 c0 rfl d0 (.yes rfl rfl) (fun _=>Aj rfl rfl) rfl<|Bb 63 18446744073709551615 c0 rfl d0 (.yes rfl rfl) (fun _=>Aj rfl rfl) rfl ?_
 obtain ⟨d5,F4,h⟩:=bi h
 have F3:=AE k2 (Tt P1 W2)
 refine RD.callq (i:=64) (m' :=36893488147419103231) (W:=2324289753287403503616) (tk c0) rfl d0 (v:=.bool d5) (fst:=[]) (cap:=[vP D0]) (.yes rfl rfl) body28 rfl (e2 rfl rfl) (fun w9 hw9=>wardmotelaw23_is_1_c n _ w9 (v0.hL0 hL hw9) B2.1 (v0.kd Y3 hw9) B2.2 ([(2:Int)]:List Int) (v0.kd F3 hw9) (fun j9 v9 h9=>hw9.cell0 ((v0.memA .hd) j9 v9 h9)) F4) rfl<|Ag 65 73786976294838206463 c0 rfl d0 (fun _=>FV.pick_t rfl rfl) rfl<|Ag 66 147573952589676412927 c0 rfl d0 (fun _=>Ah rfl) rfl<|RD.ifb (s:=86) rfl h (fun M2 h=>?_) (fun M2 h=>?_)
 refine Bb 67 295147905179352825855 c0 rfl d0 (.yes rfl rfl) (fun _=>Ah rfl) rfl<|Bb 68 590295810358705651711 c0 rfl d0 (.yes rfl rfl) (fun _=>FV.eql (i:=g5.2) (j:=2) rfl rfl) rfl<|Ag 69 1180591620717411303423 c0 rfl d0 (fun _=>FV.pick_t rfl rfl) rfl<|Ag 70 2361183241434822606847 c0 rfl d0 (fun _=>FV.assign rfl) rfl<|AR (dk c0)<|Ao rfl<|AK hb0 Tryd.func4 rfl rfl ?_
 cases h
 exact v0.gv
 refine Ay 590295810358705651711 2 [(67,87),(68,88)] (F:=[(86,false)]) (U:=[]) c0 d0 (.cons rfl .nil) .nil ?_
 dsimp only [offS,List.map]
 refine Ag 69 1180591620717411303423 c0 rfl d0 (fun _=>Ap rfl rfl) rfl<|Ag 70 2361183241434822606847 c0 rfl d0 (fun _=>FV.assign rfl) rfl<|AR (dk c0)<|Ao rfl<|AK hb0 Tryd.func4 rfl rfl ?_
 cases h
 exact v0.gv
 refine Ay 36893488147419103231 6 [(58,78),(59,79),(60,80),(61,81),(62,82),(63,83),(64,84)] (F:=[(77,false)]) (U:=[]) c0 d0 (.cons rfl .nil) .nil ?_
 dsimp only [offS,List.map]
 refine Ag 65 73786976294838206463 c0 rfl d0 (fun _=>Ap rfl rfl) rfl<|Ag 66 147573952589676412927 c0 rfl d0 (fun _=>Ah rfl) rfl<|Ay 590295810358705651711 2 [(67,87),(68,88)] (F:=[(86,false)]) (U:=[]) c0 d0 (.cons rfl .nil) .nil ?_
 dsimp only [offS,List.map]
 refine Ag 69 1180591620717411303423 c0 rfl d0 (fun _=>Ap rfl rfl) rfl<|Ag 70 2361183241434822606847 c0 rfl d0 (fun _=>FV.assign rfl) rfl<|AR (dk c0)<|Ao rfl<|AK hb0 Tryd.func4 rfl rfl ?_
 cases h
 exact p0.gv
 refine Ay 72057594037927935 15 [(54,74),(55,75)] (F:=[(73,false)]) (U:=[]) c0 d0 (.cons rfl .nil) .nil ?_
 dsimp only [offS,List.map]
 refine Ag 56 144115188075855871 c0 rfl d0 (fun _=>Ap rfl rfl) rfl<|Ag 57 288230376151711743 c0 rfl d0 (fun _=>Ah rfl) rfl<|Ay 36893488147419103231 6 [(58,78),(59,79),(60,80),(61,81),(62,82),(63,83),(64,84)] (F:=[(77,false)]) (U:=[]) c0 d0 (.cons rfl .nil) .nil ?_
 dsimp only [offS,List.map]
 refine Ag 65 73786976294838206463 c0 rfl d0 (fun _=>Ap rfl rfl) rfl<|Ag 66 147573952589676412927 c0 rfl d0 (fun _=>Ah rfl) rfl<|Ay 590295810358705651711 2 [(67,87),(68,88)] (F:=[(86,false)]) (U:=[]) c0 d0 (.cons rfl .nil) .nil ?_
 dsimp only [offS,List.map]
 refine Ag 69 1180591620717411303423 c0 rfl d0 (fun _=>Ap rfl rfl) rfl<|Ag 70 2361183241434822606847 c0 rfl d0 (fun _=>FV.assign rfl) rfl<|AR (dk c0)<|Ao rfl<|AK hb0 Tryd.func4 rfl rfl ?_
 cases h
 exact p0.gv
 refine Ay 4503599627370495 19 [(45,65),(46,66),(47,67),(48,68),(49,69),(50,70),(51,71)] (F:=[(64,false)]) (U:=[]) c0 d0 (.cons rfl .nil) .nil ?_
 dsimp only [offS,List.map]
 refine Ag 52 9007199254740991 c0 rfl d0 (fun _=>Ap rfl rfl) rfl<|Ag 53 18014398509481983 c0 rfl d0 (fun _=>Ah rfl) rfl<|Ay 72057594037927935 15 [(54,74),(55,75)] (F:=[(73,false)]) (U:=[]) c0 d0 (.cons rfl .nil) .nil ?_
 dsimp only [offS,List.map]
 refine Ag 56 144115188075855871 c0 rfl d0 (fun _=>Ap rfl rfl) rfl<|Ag 57 288230376151711743 c0 rfl d0 (fun _=>Ah rfl) rfl<|Ay 36893488147419103231 6 [(58,78),(59,79),(60,80),(61,81),(62,82),(63,83),(64,84)] (F:=[(77,false)]) (U:=[]) c0 d0 (.cons rfl .nil) .nil ?_
 dsimp only [offS,List.map]
 refine Ag 65 73786976294838206463 c0 rfl d0 (fun _=>Ap rfl rfl) rfl<|Ag 66 147573952589676412927 c0 rfl d0 (fun _=>Ah rfl) rfl<|Ay 590295810358705651711 2 [(67,87),(68,88)] (F:=[(86,false)]) (U:=[]) c0 d0 (.cons rfl .nil) .nil ?_
 dsimp only [offS,List.map]
 refine Ag 69 1180591620717411303423 c0 rfl d0 (fun _=>Ap rfl rfl) rfl<|Ag 70 2361183241434822606847 c0 rfl d0 (fun _=>FV.assign rfl) rfl<|AR (dk c0)<|Ao rfl<|AK hb0 Tryd.func4 rfl rfl ?_
 cases h
 exact j0.gv
 refine Ay 8796093022207 28 [(36,56),(37,57),(38,58),(39,59),(40,60),(41,61),(42,62)] (F:=[(55,false)]) (U:=[]) c0 d0 (.cons rfl .nil) .nil ?_
 dsimp only [offS,List.map]
 refine Ag 43 17592186044415 c0 rfl d0 (fun _=>Ap rfl rfl) rfl<|Ag 44 35184372088831 c0 rfl d0 (fun _=>Ah rfl) rfl<|Ay 4503599627370495 19 [(45,65),(46,66),(47,67),(48,68),(49,69),(50,70),(51,71)] (F:=[(64,false)]) (U:=[]) c0 d0 (.cons rfl .nil) .nil ?_
 dsimp only [offS,List.map]
 refine Ag 52 9007199254740991 c0 rfl d0 (fun _=>Ap rfl rfl) rfl<|Ag 53 18014398509481983 c0 rfl d0 (fun _=>Ah rfl) rfl<|Ay 72057594037927935 15 [(54,74),(55,75)] (F:=[(73,false)]) (U:=[]) c0 d0 (.cons rfl .nil) .nil ?_
 dsimp only [offS,List.map]
 refine Ag 56 144115188075855871 c0 rfl d0 (fun _=>Ap rfl rfl) rfl<|Ag 57 288230376151711743 c0 rfl d0 (fun _=>Ah rfl) rfl<|Ay 36893488147419103231 6 [(58,78),(59,79),(60,80),(61,81),(62,82),(63,83),(64,84)] (F:=[(77,false)]) (U:=[]) c0 d0 (.cons rfl .nil) .nil ?_
 dsimp only [offS,List.map]
 refine Ag 65 73786976294838206463 c0 rfl d0 (fun _=>Ap rfl rfl) rfl<|Ag 66 147573952589676412927 c0 rfl d0 (fun _=>Ah rfl) rfl<|Ay 590295810358705651711 2 [(67,87),(68,88)] (F:=[(86,false)]) (U:=[]) c0 d0 (.cons rfl .nil) .nil ?_
 dsimp only [offS,List.map]
 refine Ag 69 1180591620717411303423 c0 rfl d0 (fun _=>Ap rfl rfl) rfl<|Ag 70 2361183241434822606847 c0 rfl d0 (fun _=>FV.assign rfl) rfl<|AR (dk c0)<|Ao rfl<|AK hb0 Tryd.func4 rfl rfl ?_
 cases h
 exact g0.gv
 refine Ay 17179869183 37 [(27,47),(28,48),(29,49),(30,50),(31,51),(32,52),(33,53)] (F:=[(46,false)]) (U:=[]) c0 d0 (.cons rfl .nil) .nil ?_
 dsimp only [offS,List.map]
 refine Ag 34 34359738367 c0 rfl d0 (fun _=>Ap rfl rfl) rfl<|Ag 35 68719476735 c0 rfl d0 (fun _=>Ah rfl) rfl<|Ay 8796093022207 28 [(36,56),(37,57),(38,58),(39,59),(40,60),(41,61),(42,62)] (F:=[(55,false)]) (U:=[]) c0 d0 (.cons rfl .nil) .nil ?_
 dsimp only [offS,List.map]
 refine Ag 43 17592186044415 c0 rfl d0 (fun _=>Ap rfl rfl) rfl<|Ag 44 35184372088831 c0 rfl d0 (fun _=>Ah rfl) rfl<|Ay 4503599627370495 19 [(45,65),(46,66),(47,67),(48,68),(49,69),(50,70),(51,71)] (F:=[(64,false)]) (U:=[]) c0 d0 (.cons rfl .nil) .nil ?_
 dsimp only [offS,List.map]
 refine Ag 52 9007199254740991 c0 rfl d0 (fun _=>Ap rfl rfl) rfl<|Ag 53 18014398509481983 c0 rfl d0 (fun _=>Ah rfl) rfl<|Ay 72057594037927935 15 [(54,74),(55,75)] (F:=[(73,false)]) (U:=[]) c0 d0 (.cons rfl .nil) .nil ?_
 dsimp only [offS,List.map]
 refine Ag 56 144115188075855871 c0 rfl d0 (fun _=>Ap rfl rfl) rfl<|Ag 57 288230376151711743 c0 rfl d0 (fun _=>Ah rfl) rfl<|Ay 36893488147419103231 6 [(58,78),(59,79),(60,80),(61,81),(62,82),(63,83),(64,84)] (F:=[(77,false)]) (U:=[]) c0 d0 (.cons rfl .nil) .nil ?_
 dsimp only [offS,List.map]
 refine Ag 65 73786976294838206463 c0 rfl d0 (fun _=>Ap rfl rfl) rfl<|Ag 66 147573952589676412927 c0 rfl d0 (fun _=>Ah rfl) rfl<|Ay 590295810358705651711 2 [(67,87),(68,88)] (F:=[(86,false)]) (U:=[]) c0 d0 (.cons rfl .nil) .nil ?_
 dsimp only [offS,List.map]
 refine Ag 69 1180591620717411303423 c0 rfl d0 (fun _=>Ap rfl rfl) rfl<|Ag 70 2361183241434822606847 c0 rfl d0 (fun _=>FV.assign rfl) rfl<|AR (dk c0)<|Ao rfl<|AK hb0 Tryd.func4 rfl rfl ?_
 cases h
 exact k0.gv
 refine Ay 33554431 46 [(17,37),(18,38),(19,39),(20,40),(21,41),(22,42),(23,43),(24,44)] (F:=[(36,false)]) (U:=[]) c0 d0 (.cons rfl .nil) .nil ?_
 dsimp only [offS,List.map]
 refine Ag 25 67108863 c0 rfl d0 (fun _=>Ap rfl rfl) rfl<|Ag 26 134217727 c0 rfl d0 (fun _=>Ah rfl) rfl<|Ay 17179869183 37 [(27,47),(28,48),(29,49),(30,50),(31,51),(32,52),(33,53)] (F:=[(46,false)]) (U:=[]) c0 d0 (.cons rfl .nil) .nil ?_
 dsimp only [offS,List.map]
 refine Ag 34 34359738367 c0 rfl d0 (fun _=>Ap rfl rfl) rfl<|Ag 35 68719476735 c0 rfl d0 (fun _=>Ah rfl) rfl<|Ay 8796093022207 28 [(36,56),(37,57),(38,58),(39,59),(40,60),(41,61),(42,62)] (F:=[(55,false)]) (U:=[]) c0 d0 (.cons rfl .nil) .nil ?_
 dsimp only [offS,List.map]
 refine Ag 43 17592186044415 c0 rfl d0 (fun _=>Ap rfl rfl) rfl<|Ag 44 35184372088831 c0 rfl d0 (fun _=>Ah rfl) rfl<|Ay 4503599627370495 19 [(45,65),(46,66),(47,67),(48,68),(49,69),(50,70),(51,71)] (F:=[(64,false)]) (U:=[]) c0 d0 (.cons rfl .nil) .nil ?_
 dsimp only [offS,List.map]
 refine Ag 52 9007199254740991 c0 rfl d0 (fun _=>Ap rfl rfl) rfl<|Ag 53 18014398509481983 c0 rfl d0 (fun _=>Ah rfl) rfl<|Ay 72057594037927935 15 [(54,74),(55,75)] (F:=[(73,false)]) (U:=[]) c0 d0 (.cons rfl .nil) .nil ?_
 dsimp only [offS,List.map]
 refine Ag 56 144115188075855871 c0 rfl d0 (fun _=>Ap rfl rfl) rfl<|Ag 57 288230376151711743 c0 rfl d0 (fun _=>Ah rfl) rfl<|Ay 36893488147419103231 6 [(58,78),(59,79),(60,80),(61,81),(62,82),(63,83),(64,84)] (F:=[(77,false)]) (U:=[]) c0 d0 (.cons rfl .nil) .nil ?_
 dsimp only [offS,List.map]
 refine Ag 65 73786976294838206463 c0 rfl d0 (fun _=>Ap rfl rfl) rfl<|Ag 66 147573952589676412927 c0 rfl d0 (fun _=>Ah rfl) rfl<|Ay 590295810358705651711 2 [(67,87),(68,88)] (F:=[(86,false)]) (U:=[]) c0 d0 (.cons rfl .nil) .nil ?_
 dsimp only [offS,List.map]
 refine Ag 69 1180591620717411303423 c0 rfl d0 (fun _=>Ap rfl rfl) rfl<|Ag 70 2361183241434822606847 c0 rfl d0 (fun _=>FV.assign rfl) rfl<|AR (dk c0)<|Ao rfl<|AK hb0 Tryd.func4 rfl rfl ?_
 cases h
 exact t0.gv
 refine Ay 32767 56 [(8,28),(9,29),(10,30),(11,31),(12,32),(13,33),(14,34)] (F:=[(27,false)]) (U:=[]) c0 d0 (.cons rfl .nil) .nil ?_
 dsimp only [offS,List.map]
 refine Ag 15 65535 c0 rfl d0 (fun _=>Ap rfl rfl) rfl<|Ag 16 131071 c0 rfl d0 (fun _=>Ah rfl) rfl<|Ay 33554431 46 [(17,37),(18,38),(19,39),(20,40),(21,41),(22,42),(23,43),(24,44)] (F:=[(36,false)]) (U:=[]) c0 d0 (.cons rfl .nil) .nil ?_
 dsimp only [offS,List.map]
 refine Ag 25 67108863 c0 rfl d0 (fun _=>Ap rfl rfl) rfl<|Ag 26 134217727 c0 rfl d0 (fun _=>Ah rfl) rfl<|Ay 17179869183 37 [(27,47),(28,48),(29,49),(30,50),(31,51),(32,52),(33,53)] (F:=[(46,false)]) (U:=[]) c0 d0 (.cons rfl .nil) .nil ?_
 dsimp only [offS,List.map]
 refine Ag 34 34359738367 c0 rfl d0 (fun _=>Ap rfl rfl) rfl<|Ag 35 68719476735 c0 rfl d0 (fun _=>Ah rfl) rfl<|Ay 8796093022207 28 [(36,56),(37,57),(38,58),(39,59),(40,60),(41,61),(42,62)] (F:=[(55,false)]) (U:=[]) c0 d0 (.cons rfl .nil) .nil ?_
 dsimp only [offS,List.map]
 refine Ag 43 17592186044415 c0 rfl d0 (fun _=>Ap rfl rfl) rfl<|Ag 44 35184372088831 c0 rfl d0 (fun _=>Ah rfl) rfl<|Ay 4503599627370495 19 [(45,65),(46,66),(47,67),(48,68),(49,69),(50,70),(51,71)] (F:=[(64,false)]) (U:=[]) c0 d0 (.cons rfl .nil) .nil ?_
 dsimp only [offS,List.map]
 refine Ag 52 9007199254740991 c0 rfl d0 (fun _=>Ap rfl rfl) rfl<|Ag 53 18014398509481983 c0 rfl d0 (fun _=>Ah rfl) rfl<|Ay 72057594037927935 15 [(54,74),(55,75)] (F:=[(73,false)]) (U:=[]) c0 d0 (.cons rfl .nil) .nil ?_
 dsimp only [offS,List.map]
 refine Ag 56 144115188075855871 c0 rfl d0 (fun _=>Ap rfl rfl) rfl<|Ag 57 288230376151711743 c0 rfl d0 (fun _=>Ah rfl) rfl<|Ay 36893488147419103231 6 [(58,78),(59,79),(60,80),(61,81),(62,82),(63,83),(64,84)] (F:=[(77,false)]) (U:=[]) c0 d0 (.cons rfl .nil) .nil ?_
 dsimp only [offS,List.map]
 refine Ag 65 73786976294838206463 c0 rfl d0 (fun _=>Ap rfl rfl) rfl<|Ag 66 147573952589676412927 c0 rfl d0 (fun _=>Ah rfl) rfl<|Ay 590295810358705651711 2 [(67,87),(68,88)] (F:=[(86,false)]) (U:=[]) c0 d0 (.cons rfl .nil) .nil ?_
 dsimp only [offS,List.map]
 refine Ag 69 1180591620717411303423 c0 rfl d0 (fun _=>Ap rfl rfl) rfl<|Ag 70 2361183241434822606847 c0 rfl d0 (fun _=>FV.assign rfl) rfl<|AR (dk c0)<|Ao rfl<|AK hb0 Tryd.func4 rfl rfl ?_
 cases h
 exact u0.gv
def tb9_11:List (Nat × Nat × Nat):=[(0,17592186044416,256),(1,35184372088832,17592186044416),(2,70368744177664,35184372088832),(0,140737488355328,2048),(12,281474976710656,211106232532992),(16,562949953421312,281474976710656),(32,1125899906842624,562949953421312),(0,2251799813685248,32),(192,4503599627370496,3377699720527872),(256,9007199254740992,4503599627370496),(1023,32768,9007199254740992)]
def split_Nested_l1 (_n:Nat) (p0:Tview × Int) (a2:Int) (g0:Nat × (List (Int × Int)) → Option ((Bool × Int) ⊕ Unit)):Nat × (List (Int × Int)) → Option ((Bool × Int) ⊕ Unit)
  | (c0,b0)=>(if c0 < p0.1.fj.fo.length then (p0.1.fj.fo[c0]?).bind fun j0=>(if j0.ft = true then g0 (c0 + 1,b0) else (idx j0.fy p0.1.fm).bind fun d0=>(idx j0.fy a2).bind fun k0=>(if (mget b0 d0).isSome = true then (if (mgetD b0 d0 (0:Int)) = k0 then g0 (c0 + 1,mset b0 d0 k0) else some (.inl (false,(0:Int)))) else g0 (c0 + 1,mset b0 d0 k0))) else some (.inr ()))
def split_Nested_p (n:Nat) (a0:TRoll) (a1:Int) (a2:Int):Option (Bool × Int):=
  (split_seen_p n a0 a1).bind fun b0=>jn (fun d0=>(if d0 = 0 then thn (loopF (split_Nested_l1 n b0 a2) n (0,([]:List (Int × Int)))) (fun _=>some (true,(0:Int))) else some (false,d0))) (fun c0=>(if b0.2 = 0 then (split_seen_p n a0 a2).bind fun g0=>c0 g0.2 else c0 b0.2))
theorem split_Nested_c (n:Nat) (L:List Nat) (w:World) (hL:∀ b ∈ L,b < w.heap.size) (a0:TRoll) {v0_3:Value} (h0_3:Rep.R w L [v0_3] a0.fo) (a1:Int) (a2:Int)  {r:Bool × Int} (h:split_Nested_p n a0 a1 a2 = some r) :
    Calls Tryd.prog 9 #[.agg #[vI a0.fh,vI a0.fc,vI a0.fe,v0_3],vI a1,vI a2] w (Gives w fun _ u=>u = .tuple #[.bool r.1,vI r.2]):=by
 unfold split_Nested_p at h
 have hS0:=AC w
 refine AF Tryd.func9 rfl rfl rfl (fun _ cs0 hb0=>?_)
 refine Ae<|Ax .plain rfl (AL hS0 rfl rfl) (fun U5 z1 I1 V4=>?_)
 refine Ax .plain rfl (AL I1 rfl rfl) (fun V5 u0 J1 W4=>?_)
 refine Ax .plain rfl (AO [.bool false] J1) (fun W5 v0 K1 X4=>?_)
 refine Ax .plain rfl (AO [vI 0] K1) (fun X5 x0 H0 Y4=>?_)
 refine Aa<|Ae<|Ac (AI rfl (H0.memA (.tl (.tl (.tl .hd)))))<|Ab rfl ?_
 obtain ⟨b0,p4,h⟩:=bi h
 refine AY (fst:=[]) (cap:=[]) .plain body20 rfl (e2 rfl rfl) (fun w9 hw9=>split_seen_c n _ w9 (H0.hL hL hw9) a0 (H0.km h0_3 hw9) a1 p4) rfl (fun Y5 P5 Z2 ⟨g0,hu_,G0⟩=>?_)
 subst hu_
 obtain ⟨P1,Z4⟩:=H0.agr Z2
 refine Ab rfl<|Ac (Aj rfl rfl)<|Ac (Aj rfl rfl)<|Ax .plain rfl (AO [vI 0,vI 0,vI 0,vN,vI 0] P1) (fun d6 y0 V1 p1=>?_)
 have I3:=AE G0 p1
 refine RG.sa [vI b0.1.fj.fh,vI b0.1.fj.fc,vI b0.1.fj.fe,g0,vI b0.1.fm] V1 .hd (o5 rfl rfl rfl (Rep.o1 I3) rfl) (fun x4 C0 K2=>?_)
 refine Af rfl<|Aa<|Am<|Ae<|Ab rfl<|Ac (FV.eql (i:=b0.2) (j:=0) rfl rfl)<|Aa<|MX.join (α:=Int) (fun A0=>[(5,vP u0),(6,vP v0),(7,vP x0),(8,vP y0),(9,vI A0)]) (fun A0 b1=>St w b1 [.cells y0 [vI b0.1.fj.fh,vI b0.1.fj.fc,vI b0.1.fj.fe,g0,vI b0.1.fm] 61,.cells x0 [vI 0] 31,.cells v0 [.bool false] 4,.cells u0 [vI a2] 3]∧Tr x4 [.cells y0 [vI b0.1.fj.fh,vI b0.1.fj.fc,vI b0.1.fj.fe,g0,vI b0.1.fm] 61,.cells x0 [vI 0] 31,.cells v0 [.bool false] 4,.cells u0 [vI a2] 3,.cells z1 [vI a0.fh,vI a0.fc,vI a0.fe,v0_3] 25] b1 [.cells y0 [vI b0.1.fj.fh,vI b0.1.fj.fc,vI b0.1.fj.fe,g0,vI b0.1.fm] 61,.cells x0 [vI 0] 31,.cells v0 [.bool false] 4,.cells u0 [vI a2] 3]) (fun A0=>A0) h ?_ ?_
 rintro A0 b1 ⟨j1,R2⟩ h
 try dsimp only at h
 refine Am<|Ae<|Ab rfl<|Ac (FV.neq (i:=A0) (j:=0) rfl rfl)<|Aa<|MX.ifn rfl h (fun F1 h=>?_) (fun F1 h=>?_)
 refine Aq<|Ae<|Ax .plain rfl (Does.makeMap (κ:=Int) (ν:=Int) j1) (fun E6 z0 A2 U2=>?_)
 refine Ax .plain rfl (AO [.map none] A2) (fun F6 M0 B2 V2=>?_)
 refine RG.sa [.map (some z0)] B2 .hd (o1 rfl) (fun y4 I0 W2=>?_)
 refine Aa<|Am<|Ae<|Ac (AI rfl (I0.memA (.tl (.tl .hd)))) ?_
 have u1:=Tt p1 (Tt K2 (Tt R2 (Tt U2 (Tt V2 W2))))
 have J3:=AE G0 u1
 refine AY (fst:=[]) (cap:=[]) .plain body24 rfl (e1 rfl) (fun w9 hw9=>AQ (split_view_land_c n _ w9 (I0.hL hL hw9) b0.1 (Aw J3 hw9)) fun (w8:World) (u8:Value) ⟨b0_,hu_,s_⟩=>(⟨b0_,hu_,s_.from hw9⟩:∃ q0:Nat,u8 = Value.func (.func 38) #[] #[vP q0]∧St y4 w8 [.cells q0 [vI b0.1.fj.fh,vI b0.1.fj.fc,vI b0.1.fj.fe,g0,vI b0.1.fm] 61])) rfl (fun G6 R5 A5 ⟨q0,c4,y1⟩=>?_)
 subst c4
 have C2:=mk_push1 I0 y1
 have X2:=mk_tr1 I0 y1
 refine Aa<|Au<|MX.rangeP (lb:=[vP q0]) rfl C2 rfl body38 Tryd.func38 rfl rfl rfl (fun z4 J0 K0 Y0 U4 k1 Y2 s4 q1 D5=>?_)
 refine Ae<|RG.fa 0 rfl<|RG.fa 3 rfl<|Ac (AS rfl ((mem_from (k1.memA (.tl (.tl .hd))) 0) 3 _ rfl)) ?_
 have X0:=Tt u1 (Tt X2 Y2)
 have t1:=AE G0 X0
 have B5:b0.1.fj.fo.length ≤ 281474976710656:=Rep.lenle t1
 refine Ac (FV.len (xs:=b0.1.fj.fo) Tryd.underlying23 rfl t1)<|Ab rfl<|Aa<|Au ?_
 obtain ⟨H5,K3,s1⟩:=thn_in h
 refine MX.loop (α:=Nat × (List (Int × Int))) (fun ⟨c0,k0⟩=>[(0,.func (.yield J0) #[] #[]),(1,vP q0),(7,g0),(8,vI ((b0.1.fj.fo.length:Nat):Int)),(9,vI ((c0:Nat):Int))]) (fun ⟨c0,k0⟩ Z0=>St w Z0 [.obj J0 (lpO Y0 .ready none),.obj K0 (.deferred (some [])),.cells q0 [vI b0.1.fj.fh,vI b0.1.fj.fc,vI b0.1.fj.fe,g0,vI b0.1.fm] 61,.cells M0 [.map (some z0)] 65,.obj z0 (mapO (k0:List (Int × Int))),.cells y0 [vI b0.1.fj.fh,vI b0.1.fj.fc,vI b0.1.fj.fe,g0,vI b0.1.fm] 61,.cells x0 [vI 0] 31,.cells v0 [.bool false] 4,.cells u0 [vI a2] 3]∧Tr z4 [.obj J0 (lpO Y0 .ready none),.obj K0 (.deferred (some [])),.cells q0 [vI b0.1.fj.fh,vI b0.1.fj.fc,vI b0.1.fj.fe,g0,vI b0.1.fm] 61,.cells M0 [.map (some z0)] 65,.obj z0 (mapO ([]:List (Int × Int))),.cells y0 [vI b0.1.fj.fh,vI b0.1.fj.fc,vI b0.1.fj.fe,g0,vI b0.1.fm] 61,.cells x0 [vI 0] 31,.cells v0 [.bool false] 4,.cells u0 [vI a2] 3] Z0 [.obj J0 (lpO Y0 .ready none),.obj K0 (.deferred (some [])),.cells q0 [vI b0.1.fj.fh,vI b0.1.fj.fc,vI b0.1.fj.fe,g0,vI b0.1.fm] 61,.cells M0 [.map (some z0)] 65,.obj z0 (mapO (k0:List (Int × Int))),.cells y0 [vI b0.1.fj.fh,vI b0.1.fj.fc,vI b0.1.fj.fe,g0,vI b0.1.fm] 61,.cells x0 [vI 0] 31,.cells v0 [.bool false] 4,.cells u0 [vI a2] 3]) (fun ⟨c0,k0⟩=>(c0,k0)) (0,([]:List (Int × Int))) K3 ⟨rfl,rfl,rfl,rfl,rfl,trivial⟩ ⟨k1,AM _ _⟩ ?_
 rintro F4 ⟨c0,k0⟩ Z0 P0 ⟨g1,E0⟩ h
 unfold split_Nested_l1 at h
 try dsimp only at h
 refine Ae<|Ac (FV.lssN (i:=c0) (j:=b0.1.fj.fo.length) rfl rfl)<|Aa<|Am<|AU rfl h (fun A1 h=>?_) (fun A1 h=>?_)
 refine Aq<|Am<|Au<|Ae<|Ab rfl ?_
 obtain ⟨c1,x1,h⟩:=bi h
 have z3:=AE G0 (Tt X0 E0)
 obtain ⟨B4,I4,c3,t3,P4,U3,y3⟩:=Rep.nth z3 x1
 obtain ⟨t4,u4,v4,rfl,V3,W3,v1⟩:=op_TUnit U3
 refine Ac (FV.ia 6 c0 rfl c3 rfl rfl t3)<|Ac (AI rfl y3)<|Ax .plain rfl (AO [.string ⟨#[]⟩,vI 0,vN,vN,vN,.bool false] g1) (fun Z5 H4 M1 s0=>?_)
 refine Af rfl ?_
 have A3:=AE V3 s0
 have B3:=AE W3 s0
 have C3:=AE v1 s0
 refine RG.sa [.string c1.fq,vI c1.fp,t4,u4,v4,.bool c1.ft] M1 .hd (o6 rfl rfl (Rep.o1 A3) (Rep.o1 B3) (Rep.o1 C3) rfl) (fun b6 B0 F0=>?_)
 refine Aa<|Ae<|RG.fa 5 rfl<|Ba rfl ((B0.memA .hd) 5 _ rfl)<|Ac (FV.not rfl)<|Ab rfl<|RG.ifnb (s:=17) rfl h (fun B1 h=>?_) (fun B1 h=>?_)
 refine Ak<|Ak<|Ak<|Ak<|Ak<|Ak<|Ak<|Ak<|Ak<|Ak<|AG rfl rfl<|Aa<|AZ rfl<|Aq<|Ar<|Al<|Ac (AX (i:=c0) (j:=1) rfl rfl (by omega))<|Ab rfl<|Aa ?_
 obtain ⟨Q1,D2⟩:=AA B0 (.one (.tl .hd) (.one (.tl .hd) (.one (.tl .hd) (.one (.tl .hd) (.one (.tl .hd) (.one (.tl .hd) (.one (.tl .hd) (.one (.tl .hd) (.one (.tl .hd) .done)))))))))
 have M3:=Tt s0 (Tt F0 D2)
 exact P0 (c0 + 1,k0) _ _ ⟨rfl,rfl,rfl,rfl,rfl,trivial⟩ ⟨Q1,(Tt E0 M3)⟩ h
 refine AH (Ah rfl)<|AH (Ah rfl)<|RG.fg 4 rfl<|AH (AS rfl ((B0.memA .hd) 4 _ rfl))<|RG.fg 4 rfl<|AH (AS rfl ((B0.memA (.tl (.tl (.tl .hd)))) 4 _ rfl)) ?_
 obtain ⟨t0,d4,h⟩:=bi h
 obtain ⟨q3,g4⟩:=idx_in d4
 have E3:=AE v1 (Tt s0 F0)
 obtain ⟨C4,J4,d3,u3,G1,X3,D3⟩:=Rep.nth E3 g4
 have g3:G1 = [vI t0]:=X3; subst g3
 refine AH (FV.ia 1 (b0.1.fm.toNat) rfl d3 rfl q3 u3)<|AH (AS rfl (D3 0 _ rfl))<|RG.yieldP (fd:=9) (vs:=[vI ((c0:Nat):Int),vI t0]) (.yes rfl rfl) rfl (e2 rfl rfl) B0 (.tl .hd) s4 rfl rfl rfl (fun Q4 W0 C5=>?_)
 refine Ae<|Af rfl<|Aa<|Al<|Af rfl<|Aa<|MX.begin B0 (.tl .hd) (fun c6 p0 V0=>?_)
 refine Au<|Ae<|Ac (AS rfl ((p0.memA (.tl (.tl (.tl (.tl .hd))))) 0 _ rfl))<|Ab rfl<|Ac (FV.lookup2 (kv:=t0) (z:=(0:Int)) p0 (.tl (.tl (.tl (.tl (.tl .hd))))) Tryd.underlying65 Tryd.underlying3 rfl (by kernel_rfl) rfl rfl)<|Ab rfl<|Ac (Aj rfl rfl)<|Ac (Aj rfl rfl)<|Af rfl<|Af rfl<|Aa<|Am<|dt 11 tb9_11 (fun d0 j0=>?_)
 refine Ag 0 1 d0 rfl j0 (fun _=>FV.fa 0 rfl) rfl<|Ag 1 3 d0 rfl j0 (fun _=>FV.fa 3 rfl) rfl<|RD.vx 2 7 1904 d0 rfl j0 (AS rfl ((mem_from (p0.memA (.tl (.tl (.tl (.tl (.tl (.tl .hd))))))) 0) 3 _ rfl)) rfl<|Ag 3 15 d0 rfl j0 (fun _=>Ah rfl) rfl ?_
 have P3:=Tt X0 (Tt E0 (Tt s0 (Tt F0 V0)))
 have G3:=AE G0 P3
 obtain ⟨D4,K4,j3,v3,R4,Y3,F3⟩:=Rep.nth G3 x1
 obtain ⟨I5,J5,K5,rfl,E5,F5,Z3⟩:=op_TUnit Y3
 refine Ag 4 31 d0 rfl j0 (fun _=>FV.ia 6 c0 rfl j3 rfl rfl v3) rfl<|Ag 5 63 d0 rfl j0 (fun _=>FV.fa 4 rfl) rfl<|RD.vx 6 127 1792 d0 rfl j0 (AS rfl (F3 4 _ rfl)) rfl<|RD.vx 7 255 1792 d0 rfl j0 (AS rfl ((p0.memA (.tl (.tl (.tl (.tl (.tl (.tl (.tl (.tl (.tl .hd)))))))))) 0 _ rfl)) rfl ?_
 obtain ⟨D0,j4,h⟩:=bi h
 obtain ⟨s3,k4⟩:=idx_in j4
 obtain ⟨E4,M4,k3,x3,H1,b4,H3⟩:=Rep.nth Z3 k4
 have p3:H1 = [vI D0]:=b4; subst p3
 refine Ag 8 511 d0 rfl j0 (fun _=>FV.ia 1 (a2.toNat) rfl k3 rfl s3 x3) rfl<|RD.vx 9 1023 1024 d0 rfl j0 (AS rfl (H3 0 _ rfl)) rfl<|Ag 10 2047 d0 rfl j0 (fun _=>FV.assign rfl) rfl<|AR (dk d0)<|Am<|Ae<|Ab rfl<|Ab rfl<|RG.ifb (s:=55) rfl h (fun C1 h=>?_) (fun C1 h=>?_)
 refine AH (Ah rfl)<|AH (Ah rfl)<|AH (FV.neq (i:=mgetD k0 t0 (0:Int)) (j:=D0) rfl rfl)<|RG.pt rfl rfl<|Aa<|MX.ifn rfl h (fun D1 h=>?_) (fun D1 h=>?_)
 refine Aq<|Al<|Ac (AS rfl ((p0.memA (.tl (.tl (.tl (.tl .hd))))) 0 _ rfl))<|Ab rfl<|Ab rfl<|RG.now .plain (Acts.mapUpdate (kv:=t0) (vv:=D0) p0 (.tl (.tl (.tl (.tl (.tl .hd))))) Tryd.underlying65 Tryd.underlying3 rfl rfl rfl rfl) (fun g6 R1 E2=>?_)
 refine Aa<|Ar<|MX.roundEnd W0 R1 (.tl .hd) (fun j6 U1 F2=>?_)
 refine AH (FV.not rfl)<|RG.pt rfl rfl<|Aa<|AZ rfl<|Aq<|Ar<|Al<|Ac (AX (i:=c0) (j:=1) rfl rfl (by omega))<|Ab rfl<|Aa ?_
 obtain ⟨W1,G2⟩:=AA U1 (.one (.tl .hd) (.one (.tl .hd) (.one (.tl .hd) (.one (.tl .hd) (.one (.tl .hd) (.one (.tl .hd) (.one (.tl .hd) (.one (.tl .hd) (.one (.tl .hd) .done)))))))))
 have Q3:=Tt s0 (Tt F0 (Tt V0 (Tt E2 (Tt F2 G2))))
 exact P0 (c0 + 1,mset k0 t0 D0) _ _ ⟨rfl,rfl,rfl,rfl,rfl,trivial⟩ ⟨W1,(Tt E0 Q3)⟩ h
 refine Ae<|RG.sa [.bool false] p0 (.tl (.tl (.tl (.tl (.tl (.tl (.tl (.tl .hd)))))))) (o1 rfl) (fun k6 X1 b5=>?_)
 refine RG.sa [vI 0] X1 (.tl (.tl (.tl (.tl (.tl (.tl (.tl .hd))))))) (o1 rfl) (fun p6 Y1 c5=>?_)
 refine Aa<|MX.roundRet W0 Y1 (.tl .hd) (fun q6 Z1 d5=>?_)
 refine AH (FV.not rfl)<|RG.pt rfl rfl<|Aa<|MX.cond_t rfl ?_
 have h:=thn_inl h s1
 refine Ao rfl<|Av (u:=.tuple #[]) q1 Tryd.func38 rfl .nil rfl<|MX.endRange1 Z1 (.tl .hd) (by intro h9; cases h9) (fun s6 b2 g5=>?_)
 obtain ⟨c2,j5⟩:=AA b2 (.one .hd (.one (.tl .hd) (.one (.tl .hd) (.one (.tl .hd) (.one (.tl .hd) (.one (.tl .hd) (.one (.tl .hd) (.one (.tl .hd) (.one (.tl .hd) .done)))))))))
 refine Ao rfl<|RT.take c2 (.tl .hd) (fun t6 d2 k5=>?_)
 obtain ⟨Q0,p5⟩:=AA d2 (.one .hd (.one (.tl .hd) (.one (.tl .hd) (.one (.tl .hd) (.one (.tl .hd) (.one (.tl .hd) (.one (.tl .hd) (.one (.tl .hd) .done))))))))
 refine Av hb0 Tryd.func9 rfl (.cons (.one (by kernel_rfl) rfl ((Q0.memA (.tl (.tl (.tl (.tl (.tl (.tl .hd))))))) 0 _ rfl)) (.cons (.one (by kernel_rfl) rfl ((Q0.memA (.tl (.tl (.tl (.tl (.tl .hd)))))) 0 _ rfl)) .nil)) rfl ?_
 cases h
 exact Q0.gv
 refine Ak<|Ak<|Ak<|AG rfl rfl<|Aa<|AZ rfl<|Aq<|Al<|Ac (AS rfl ((p0.memA (.tl (.tl (.tl (.tl .hd))))) 0 _ rfl))<|Ab rfl<|Ab rfl<|RG.now .plain (Acts.mapUpdate (kv:=t0) (vv:=D0) p0 (.tl (.tl (.tl (.tl (.tl .hd))))) Tryd.underlying65 Tryd.underlying3 rfl rfl rfl rfl) (fun u6 g2 H2=>?_)
 refine Aa<|Ar<|MX.roundEnd W0 g2 (.tl .hd) (fun v6 j2 I2=>?_)
 refine AH (FV.not rfl)<|RG.pt rfl rfl<|Aa<|AZ rfl<|Aq<|Ar<|Al<|Ac (AX (i:=c0) (j:=1) rfl rfl (by omega))<|Ab rfl<|Aa ?_
 obtain ⟨k2,J2⟩:=AA j2 (.one (.tl .hd) (.one (.tl .hd) (.one (.tl .hd) (.one (.tl .hd) (.one (.tl .hd) (.one (.tl .hd) (.one (.tl .hd) (.one (.tl .hd) (.one (.tl .hd) .done)))))))))
 have R3:=Tt s0 (Tt F0 (Tt V0 (Tt H2 (Tt I2 J2))))
 exact P0 (c0 + 1,mset k0 t0 D0) _ _ ⟨rfl,rfl,rfl,rfl,rfl,trivial⟩ ⟨k2,(Tt E0 R3)⟩ h
 refine AT rfl ?_
 have h:=thn_inr h s1
 try dsimp only at h
 refine MX.fin rfl<|Av (u:=.tuple #[]) q1 Tryd.func38 rfl .nil rfl<|MX.endRange0 g1 .hd (by intro h9; cases h9) (fun x6 p2 q5=>?_)
 obtain ⟨q2,s5⟩:=AA p2 (.one (.tl .hd) (.one (.tl .hd) (.one (.tl .hd) (.one (.tl .hd) (.one (.tl .hd) (.one (.tl .hd) (.one (.tl .hd) (.one (.tl .hd) .done))))))))
 refine Ar<|Ae<|RG.sa [.bool true] q2 (.tl (.tl (.tl (.tl (.tl (.tl .hd)))))) (o1 rfl) (fun y6 s2 t5=>?_)
 refine RG.sa [vI 0] s2 (.tl (.tl (.tl (.tl (.tl .hd))))) (o1 rfl) (fun z6 t2 u5=>?_)
 refine Aa<|Ao rfl<|RT.take t2 .hd (fun A6 u2 v5=>?_)
 obtain ⟨R0,x5⟩:=AA u2 (.one (.tl .hd) (.one (.tl .hd) (.one (.tl .hd) (.one (.tl .hd) (.one (.tl .hd) (.one (.tl .hd) (.one (.tl .hd) .done)))))))
 refine Av hb0 Tryd.func9 rfl (.cons (.one (by kernel_rfl) rfl ((R0.memA (.tl (.tl (.tl (.tl (.tl .hd)))))) 0 _ rfl)) (.cons (.one (by kernel_rfl) rfl ((R0.memA (.tl (.tl (.tl (.tl .hd))))) 0 _ rfl)) .nil)) rfl ?_
 cases h
 exact R0.gv
 refine Ae<|Ab rfl<|RG.sa [.bool false] j1 (.tl (.tl .hd)) (o1 rfl) (fun B6 v2 y5=>?_)
 refine RG.sa [vI A0] v2 (.tl .hd) (o1 rfl) (fun C6 U0 z5=>?_)
 refine Aa<|Ao rfl<|Av hb0 Tryd.func9 rfl (.cons (.one (by kernel_rfl) rfl ((U0.memA (.tl (.tl .hd))) 0 _ rfl)) (.cons (.one (by kernel_rfl) rfl ((U0.memA (.tl .hd)) 0 _ rfl)) .nil)) rfl ?_
 cases h
 exact U0.gv
 intro G4 d1 h
 try dsimp only at h
 refine AU rfl h (fun E1 h=>?_) (fun E1 h=>?_)
 refine Al<|Ac (AI rfl (C0.memA (.tl (.tl (.tl (.tl .hd))))))<|Ac (AS rfl ((C0.memA (.tl (.tl (.tl .hd)))) 0 _ rfl)) ?_
 obtain ⟨A4,q4,h⟩:=bi h
 refine AY (fst:=[]) (cap:=[]) .plain body20 rfl (e2 rfl rfl) (fun w9 hw9=>split_seen_c n _ w9 (C0.hL hL hw9) a0 (C0.km h0_3 hw9) a2 q4) rfl (fun D6 Q5 b3 ⟨M5,hu_,G5⟩=>?_)
 subst hu_
 obtain ⟨x2,M2⟩:=C0.agr b3
 refine Ab rfl<|Ac (Aj rfl rfl)<|Ac (Aj rfl rfl)<|Af rfl<|Aa ?_
 obtain ⟨y2,P2⟩:=AA x2 (.one .hd (.one .hd (.one .hd (.one .hd .done))))
 exact d1 A4.2 _ _ ⟨rfl,rfl,rfl,rfl,rfl,trivial⟩ ⟨y2,(Tt M2 P2)⟩ h
 refine Aq ?_
 obtain ⟨z2,Q2⟩:=AA C0 (.one .hd (.one .hd (.one .hd (.one .hd .done))))
 exact d1 b0.2 _ _ ⟨rfl,rfl,rfl,rfl,rfl,trivial⟩ ⟨z2,Q2⟩ h
end Go.Proofs.YtfncplndfpgngaaDoor
