/- Functions of the program, and what they give: part 3. -/
import Derived.Test.YtfncplndfpgngaaGreatDoorTF2
namespace Go.Proofs.YtfncplndfpgngaaGreatDoor
open Go Go.RowKit
set_option maxRecDepth 4000
set_option maxHeartbeats 4000000

def split_Keeps_l1 (n:Nat) (d0:(List Tparent) × Int) (a4:Int) (g0:Nat → Option ((Bool × Int) ⊕ Unit)):Nat → Option ((Bool × Int) ⊕ Unit)
  | b0=>(if b0 < d0.1.length then (d0.1[b0]?).bind fun c0=>(if c0.fA = a4 then (split_parent_pieces_p n c0).bind fun j0=>some (.inl ((decide (j0 = 1)),(0:Int))) else g0 (b0 + 1)) else some (.inr ()))
def split_Keeps_p (n:Nat) (a0:TRoll) (a1:List Int) (a2:Int) (a3:Int) (a4:Int):Option (Bool × Int):=
  (split_planned_p n a0 a1 a2 a3).bind fun b0=>(if b0.2 = 0 then thn (loopF (split_Keeps_l1 n b0 a4) n 0) (fun _=>some (false,(4:Int))) else some (false,b0.2))
theorem split_Keeps_c (n:Nat) (L:List Nat) (w:World) (hL:∀ b ∈ L,b < w.heap.size) (a0:TRoll) {v0_3:Value} (h0_3:Rep.R w L [v0_3] a0.fm) (a1:List Int) {v1_0:Value} (h1_0:Rep.R w L [v1_0] a1) (a2:Int) (a3:Int) (a4:Int)  {r:Bool × Int} (h:split_Keeps_p n a0 a1 a2 a3 a4 = some r) :
    Calls Tryz.prog 19 #[.agg #[vI a0.fe,vI a0.fc,vI a0.fh,v0_3],v1_0,vI a2,vI a3,vI a4] w (Gives w fun _ u=>u = .tuple #[.bool r.1,vI r.2]):=by
 unfold split_Keeps_p at h
 have hS0:=AD w
 refine AI Tryz.func19 rfl rfl rfl (fun _ cs0 hb0=>?_)
 refine Ae<|Az .plain rfl (AK hS0 rfl rfl) (fun v1 d1 c0 p1=>?_)
 refine Af rfl<|Af rfl<|Aa<|Ae<|Ac (AE rfl (c0.memA .hd))<|Ab rfl<|Ab rfl<|Ab rfl ?_
 obtain ⟨j0,W0,h⟩:=bi h
 refine AQ (fst:=[]) (cap:=[]) .plain body43 rfl (e4 rfl rfl rfl rfl) (fun w9 hw9=>split_planned_c n _ w9 (c0.hL hL hw9) a0 (c0.km h0_3 hw9) a1 (c0.km h1_0 hw9) a2 a3 W0) rfl (fun Z0 u1 I0 ⟨Y0,hu_,k0⟩=>?_)
 subst hu_
 obtain ⟨q0,q1⟩:=c0.agr I0
 refine Ab rfl<|Ac (Ak rfl rfl)<|Ac (Ak rfl rfl)<|Af rfl<|Af rfl<|Aa<|Aj<|Ae<|Ab rfl<|Ac (Bs (i:=j0.2) (j:=0) rfl rfl)<|Aa<|MX.ifn rfl h (fun x0 h=>?_) (fun x0 h=>?_)
 refine Am<|Aj<|Ae<|Ab rfl ?_
 have s1:j0.1.length ≤ 281474976710656:=AO k0
 refine Ac (AZ (xs:=j0.1) Tryz.underlying83 rfl k0)<|Ab rfl<|Aa<|Au ?_
 obtain ⟨B0,E0⟩:=Ay q0 .done
 obtain ⟨t1,Q0,u0⟩:=thn_in h
 refine AW (α:=Nat) (fun b0=>[(4,vI a4),(27,Y0),(28,vI ((j0.1.length:Nat):Int)),(29,vI ((b0:Nat):Int))]) (fun b0 p0=>St w p0 []∧Tr Z0 [] p0 []) (fun b0=>b0) 0 Q0 ⟨rfl,rfl,rfl,rfl,trivial⟩ ⟨B0,AA _ _⟩ ?_
 rintro c1 b0 p0 A0 ⟨s0,t0⟩ h
 unfold split_Keeps_l1 at h
 try dsimp only at h
 refine Ae<|Ac (Bg (i:=b0) (j:=j0.1.length) rfl rfl)<|Aa<|Aj<|AM rfl h (fun y0 h=>?_) (fun y0 h=>?_)
 refine Am<|Aj<|Au<|Ae ?_
 obtain ⟨g0,V0,h⟩:=bi h
 have P0:=Aw k0 (Tt E0 t0)
 obtain ⟨b1,j1,J0,K0,k1,U0,M0⟩:=AS P0 V0
 obtain rfl:=op_Tparent U0
 refine Ac (AY 3 b0 rfl J0 rfl rfl K0)<|Ac (AE rfl M0)<|Az .plain rfl (Ba [vI 0,vI 0,.int .u8 0] s0) (fun x1 g1 C0 F0=>?_)
 refine Bu [vI g0.fA,vI g0.fy,.int .u8 (g0.fq.toNat:Int)] C0 .hd (onesB rfl) (fun y1 d0 G0=>?_)
 refine Aa<|Ae<|Bf 0 rfl<|AN rfl ((d0.memA .hd) 0 _ rfl)<|Ab rfl<|Ac (FV.eql (i:=g0.fA) (j:=a4) rfl rfl)<|Aa<|AM rfl h (fun z0 h=>?_) (fun z0 h=>?_)
 refine Ae<|Ac (AE rfl (d0.memA .hd)) ?_
 obtain ⟨v0,X0,h⟩:=bi h
 refine Bp (vI v0) body46 rfl (e1 rfl) (fun w9 hw9=>split_parent_pieces_c n _ w9 (d0.hL0 hL hw9) g0 X0) rfl<|Ac (FV.eql (i:=v0) (j:=1) rfl rfl)<|Af rfl<|Af rfl<|Aa ?_
 have h:=thn_inl h u0
 refine Ao rfl<|AB hb0 Tryz.func19 rfl (.cons (.tmp rfl) (.cons (.tmp rfl) .nil)) rfl ?_
 cases h
 exact d0.gv
 refine Am<|Aq<|Al<|Ac (AT (i:=b0) (j:=1) rfl rfl (by omega))<|Ab rfl<|Aa ?_
 obtain ⟨D0,H0⟩:=Ay d0 .done
 have R0:=Tt F0 (Tt G0 H0)
 exact A0 (b0 + 1) _ _ ⟨rfl,rfl,rfl,rfl,trivial⟩ ⟨D0,(Tt t0 R0)⟩ h
 refine AR rfl ?_
 have h:=thn_inr h u0
 try dsimp only at h
 refine Ae<|Af rfl<|Af rfl<|Aa<|Ao rfl<|AB hb0 Tryz.func19 rfl (.cons (.tmp rfl) (.cons (.tmp rfl) .nil)) rfl ?_
 cases h
 exact s0.gv
 refine Ae<|Ab rfl<|Af rfl<|Af rfl<|Aa<|Ao rfl<|AB hb0 Tryz.func19 rfl (.cons (.tmp rfl) (.cons (.tmp rfl) .nil)) rfl ?_
 cases h
 exact q0.gv
def split_Parents_l1 (n:Nat) (j0:List Tparent) (d0:Nat × (List Int) → Option (List Int)):Nat × (List Int) → Option (List Int)
  | (b0,c0)=>(if b0 < j0.length then (j0[b0]?).bind fun g0=>(split_every_p n g0).bind fun p0=>(if p0 = true then (split_name_p n g0).bind fun q0=>(app c0 ([q0]:List Int)).bind fun k0=>d0 (b0 + 1,k0) else d0 (b0 + 1,c0)) else some c0)
def split_Parents_p (n:Nat) (a0:TRoll) (a1:Int):Option ((List Int) × Int):=
  (split_seen_p n a0 a1).bind fun b0=>(if b0.2 = 0 then (split_view_parents_p n b0.1 ([]:List Int)).bind fun d0=>Option.bind (loopF (split_Parents_l1 n d0) n (0,([]:List Int))) (fun c0=>some (c0,(0:Int))) else some (([]:List Int),b0.2))
theorem split_Parents_c (n:Nat) (L:List Nat) (w:World) (hL:∀ b ∈ L,b < w.heap.size) (a0:TRoll) {v0_3:Value} (h0_3:Rep.R w L [v0_3] a0.fm) (a1:Int)  {r:(List Int) × Int} (h:split_Parents_p n a0 a1 = some r) :
    Calls Tryz.prog 22 #[.agg #[vI a0.fe,vI a0.fc,vI a0.fh,v0_3],vI a1] w (Gives w fun w' u=>∃ v0_0:Value,u = .tuple #[v0_0,vI r.2]∧Rep.R w' L [v0_0] r.1):=by
 unfold split_Parents_p at h
 have hS0:=AD w
 refine AI Tryz.func22 rfl rfl rfl (fun _ cs0 hb0=>?_)
 refine Ae<|Az .plain rfl (AK hS0 rfl rfl) (fun J2 u0 x0 A2=>?_)
 refine Af rfl<|Af rfl<|Aa<|Ae<|Ac (AE rfl (x0.memA .hd))<|Ab rfl ?_
 obtain ⟨b0,b2,h⟩:=bi h
 refine AQ (fst:=[]) (cap:=[]) .plain body54 rfl (e2 rfl rfl) (fun w9 hw9=>split_seen_c n _ w9 (x0.hL hL hw9) a0 (x0.km h0_3 hw9) a1 b2) rfl (fun K2 I2 v1 ⟨s0,hu_,U0⟩=>?_)
 subst hu_
 obtain ⟨g1,C2⟩:=x0.agr v1
 refine Ab rfl<|Ac (Ak rfl rfl)<|Ac (Ak rfl rfl)<|Az .plain rfl (Ba [vI 0,vI 0,vI 0,vN,vI 0] g1) (fun U2 v0 k1 P0=>?_)
 have K1:=Aw U0 P0
 refine Bu [vI b0.1.fj.fe,vI b0.1.fj.fc,vI b0.1.fj.fh,s0,vI b0.1.fu] k1 .hd (o5 rfl rfl rfl (BI K1) rfl) (fun V2 p0 t1=>?_)
 refine Af rfl<|Aa<|Aj<|Ae<|Ab rfl<|Ac (Bs (i:=b0.2) (j:=0) rfl rfl)<|Aa<|MX.ifn rfl h (fun Y0 h=>?_) (fun Y0 h=>?_)
 refine Am<|Ae<|Ac (AE rfl (p0.memA .hd)) ?_
 have X1:=Bt (α:=Int) p0 L
 obtain ⟨A0,g2,h⟩:=bi h
 have M1:=Aw U0 (Tt P0 t1)
 refine AQ (fst:=[]) (cap:=[]) .plain body55 rfl (e2 rfl rfl) (fun w9 hw9=>split_view_parents_c n _ w9 (p0.hL hL hw9) b0.1 (AH M1 hw9) ([]:List Int) (AH X1 hw9) g2) rfl (fun k2 V0 x1 ⟨H2,hu_,F0⟩=>?_)
 subst hu_
 obtain ⟨H0,D2⟩:=p0.agr x1
 refine BE (fst:=[]) (cap:=[]) (vs:=[V0,.func (.func 45) #[] #[],.func (.func 51) #[] #[]]) .plain body44 Tryz.func44 rfl rfl rfl rfl (e3 rfl rfl rfl) rfl (fun z2 y1 F2=>?_)
 refine Ae<|Af rfl<|Aa<|Aj<|Ae<|Ab rfl ?_
 have E2:A0.length ≤ 281474976710656:=AO F0
 refine Ac (AZ (xs:=A0) Tryz.underlying83 rfl F0)<|Ab rfl<|Aa<|Au ?_
 have I0:=H0.nilRow 3 (Rep.size Int)
 have u1:=BF H0 3 (Rep.size Int)
 have B1:=Av (cs:=[]) (xs:=([]:List Int)) I0 L (AC _ _)
 obtain ⟨G2,P1,D1⟩:=bind_in2 h
 refine AW (α:=Nat × (List Int) × Value × (List Value)) (fun ⟨c0,g0,d0,j0⟩=>[(1,.func (.func 45) #[] #[]),(2,.func (.func 51) #[] #[]),(6,d0),(9,V0),(10,vI ((A0.length:Nat):Int)),(11,vI ((c0:Nat):Int))]) (fun ⟨c0,g0,d0,j0⟩ z0=>St w z0 [.row w.heap.size 3 (Rep.size Int) d0 g0.length j0,.cells v0 [vI b0.1.fj.fe,vI b0.1.fj.fc,vI b0.1.fj.fh,s0,vI b0.1.fu] 97,.cells u0 [vI a0.fe,vI a0.fc,vI a0.fh,v0_3] 38]∧Tr k2 [.row w.heap.size 3 (Rep.size Int) vN (([]:List Int).length) [],.cells v0 [vI b0.1.fj.fe,vI b0.1.fj.fc,vI b0.1.fj.fh,s0,vI b0.1.fu] 97,.cells u0 [vI a0.fe,vI a0.fc,vI a0.fh,v0_3] 38] z0 [.row w.heap.size 3 (Rep.size Int) d0 g0.length j0,.cells v0 [vI b0.1.fj.fe,vI b0.1.fj.fc,vI b0.1.fj.fh,s0,vI b0.1.fu] 97,.cells u0 [vI a0.fe,vI a0.fc,vI a0.fh,v0_3] 38]∧Cells z0 (bl [.row w.heap.size 3 (Rep.size Int) d0 g0.length j0,.cells v0 [vI b0.1.fj.fe,vI b0.1.fj.fc,vI b0.1.fj.fh,s0,vI b0.1.fu] 97,.cells u0 [vI a0.fe,vI a0.fc,vI a0.fh,v0_3] 38] ++ L) j0 g0) (fun ⟨c0,g0,d0,j0⟩=>(c0,g0)) (0,([]:List Int),vN,[]) P1 ⟨rfl,rfl,rfl,rfl,rfl,rfl,trivial⟩ ⟨I0,AA _ _,B1⟩ ?_
 rintro t2 ⟨c0,g0,d0,j0⟩ z0 G0 ⟨y0,D0,E0⟩ h
 unfold split_Parents_l1 at h
 try dsimp only at h
 refine Ae<|Ac (Bg (i:=c0) (j:=A0.length) rfl rfl)<|Aa<|Aj<|AM rfl h (fun W0 h=>?_) (fun W0 h=>?_)
 refine Am<|Aj<|Au<|Ae ?_
 obtain ⟨t0,Y1,h⟩:=bi h
 have G1:=Aw F0 (Tt u1 D0)
 obtain ⟨s2,x2,C1,E1,y2,R1,F1⟩:=AS G1 Y1
 obtain rfl:=op_Tparent R1
 refine Ac (AY 3 c0 rfl C1 rfl rfl E1)<|Ac (AE rfl F1)<|Az .plain rfl (Ba [vI 0,vI 0,.int .u8 0] y0) (fun M2 u2 b1 J0=>?_)
 refine Bu [vI t0.fA,vI t0.fy,.int .u8 (t0.fq.toNat:Int)] b1 .hd (onesB rfl) (fun P2 q0 K0=>?_)
 refine Aa<|Ae<|Ab rfl<|Ac (AE rfl (q0.memA .hd)) ?_
 obtain ⟨q2,c2,h⟩:=bi h
 refine Bp (.bool q2) body45 rfl (e1 rfl) (fun w9 hw9=>split_every_c n _ w9 (q0.hL0 hL hw9) t0 c2) rfl<|Aa<|MX.ifb rfl h (fun X0 h=>?_) (fun X0 h=>?_)
 refine Al<|Ab rfl<|Ab rfl<|Ac (AE rfl (q0.memA .hd)) ?_
 obtain ⟨k0,d2,h⟩:=bi h
 refine Bp (vI k0) body51 rfl (e1 rfl) (fun w9 hw9=>split_name_c n _ w9 (q0.hL0 hL hw9) t0 d2) rfl<|Az .plain rfl (AF (α:=Int) (xs:=([k0]:List Int)) (vs:=[vI k0]) (ds' :=[vI k0]) rfl q0 el32 rfl (e1 rfl) (by kernel_rfl) rfl) (fun Q2 v2 B0 p1=>?_)
 have z1:=Av (cs:=[vI k0]) (xs:=(([k0]:List Int):List Int)) B0 L (Ax (cs:=[vI k0]) (ds:=[]) rfl (AC _ _))
 obtain ⟨p2,Z1,h⟩:=bi h
 have Q0:=Tt J0 (Tt K0 p1)
 have H1:=Ap E0 Q0
 refine RG.doesL .plain rfl (Bc (α:=Int) (ys:=([k0]:List Int)) Z1 B0 (fun _ _=>(.tl (.tl .hd))) el32 rfl rfl H1 (Src.row (α:=Int) B0 .hd z1)) (fun j2 R2 ⟨Z0,c1,q1,A1⟩=>?_)
 refine Af rfl<|Aa<|Aq<|Al<|Ac (AT (i:=c0) (j:=1) rfl rfl (by omega))<|Ab rfl<|Aa ?_
 obtain ⟨d1,M0⟩:=Ay c1 (.one (.tl (.tl .hd)) (.one (.tl (.tl .hd)) (.one (.tl (.tl .hd)) .done)))
 have I1:=Ap A1 M0
 have Q1:=Tt Q0 (Tt q1 M0)
 exact G0 (c0 + 1,p2,j2,Z0) _ _ ⟨rfl,rfl,rfl,rfl,rfl,rfl,trivial⟩ ⟨d1,(Tt D0 Q1),I1⟩ h
 refine Am<|Aq<|Al<|Ac (AT (i:=c0) (j:=1) rfl rfl (by omega))<|Ab rfl<|Aa ?_
 obtain ⟨j1,s1⟩:=Ay q0 (.one (.tl .hd) (.one (.tl .hd) (.one (.tl .hd) .done)))
 have R0:=Tt J0 (Tt K0 s1)
 have J1:=Ap E0 R0
 exact G0 (c0 + 1,g0,d0,j0) _ _ ⟨rfl,rfl,rfl,rfl,rfl,rfl,trivial⟩ ⟨j1,(Tt D0 R0),J1⟩ h
 refine AR rfl ?_
 have h:=D1 _ h
 try dsimp only at h
 refine Ae<|Ab rfl<|Af rfl<|Aa<|Ao rfl<|AB (u:=d0) y1 Tryz.func44 rfl (.cons (.tmp rfl) .nil) rfl<|Af rfl<|Af rfl<|Aa<|Ao rfl ?_
 have U1:=AU (α:=Int) y0 .hd E0 hL
 have C0:=Bk y0 .hd
 have B2:=Bl y0 .hd
 have V1:=Bm (α:=Int) (v:=d0) (xs:=g0) C0 L U1
 refine AB hb0 Tryz.func22 rfl (.cons (.tmp rfl) (.cons (.tmp rfl) .nil)) rfl ?_
 cases h
 exact ⟨C0.ag,fun w9 hw9=>⟨d0,rfl,C0.kd V1 hw9⟩⟩
 refine Ae<|Ab rfl<|Af rfl<|Af rfl<|Aa<|Ao rfl ?_
 have W1:=Bt (α:=Int) p0 L
 refine AB hb0 Tryz.func22 rfl (.cons (.tmp rfl) (.cons (.tmp rfl) .nil)) rfl ?_
 cases h
 exact ⟨p0.ag,fun w9 hw9=>⟨vN,rfl,p0.kd W1 hw9⟩⟩
def split_people_p (_n:Nat) (a0:Tparent):Option Int:=
  some a0.fy
theorem split_people_c (n:Nat) (L:List Nat) (w:World) (_hL:∀ b ∈ L,b < w.heap.size) (a0:Tparent)  {r:Int} (h:split_people_p n a0 = some r) :
    Calls Tryz.prog 56 #[.agg #[vI a0.fA,vI a0.fy,.int .u8 (a0.fq.toNat:Int)]] w (Gives w fun _ u=>u = vI r):=by
 unfold split_people_p at h
 have hS0:=AD w
 refine AI Tryz.func56 rfl rfl rfl (fun _ cs0 hb0=>?_)
 refine Ae<|Az .plain rfl (AK hS0 rfl rfl) (fun g0 c0 b0 d0=>?_)
 refine Af rfl<|Aa<|Ae<|Bf 1 rfl<|AN rfl ((b0.memA .hd) 1 _ rfl)<|Af rfl<|Aa<|Ao rfl<|AL hb0 Tryz.func56 rfl rfl ?_
 cases h
 exact b0.gv
theorem body56:bodyB Tryz.prog 56 = true:=by kernel_rfl
def split_People_l1 (n:Nat) (j0:List Tparent) (d0:Nat × (List Int) → Option (List Int)):Nat × (List Int) → Option (List Int)
  | (b0,c0)=>(if b0 < j0.length then (j0[b0]?).bind fun g0=>(split_every_p n g0).bind fun p0=>(if p0 = true then (split_people_p n g0).bind fun q0=>(app c0 ([q0]:List Int)).bind fun k0=>d0 (b0 + 1,k0) else d0 (b0 + 1,c0)) else some c0)
def split_People_p (n:Nat) (a0:TRoll) (a1:Int):Option ((List Int) × Int):=
  (split_seen_p n a0 a1).bind fun b0=>(if b0.2 = 0 then (split_view_parents_p n b0.1 ([]:List Int)).bind fun d0=>Option.bind (loopF (split_People_l1 n d0) n (0,([]:List Int))) (fun c0=>some (c0,(0:Int))) else some (([]:List Int),b0.2))
theorem split_People_c (n:Nat) (L:List Nat) (w:World) (hL:∀ b ∈ L,b < w.heap.size) (a0:TRoll) {v0_3:Value} (h0_3:Rep.R w L [v0_3] a0.fm) (a1:Int)  {r:(List Int) × Int} (h:split_People_p n a0 a1 = some r) :
    Calls Tryz.prog 23 #[.agg #[vI a0.fe,vI a0.fc,vI a0.fh,v0_3],vI a1] w (Gives w fun w' u=>∃ v0_0:Value,u = .tuple #[v0_0,vI r.2]∧Rep.R w' L [v0_0] r.1):=by
 unfold split_People_p at h
 have hS0:=AD w
 refine AI Tryz.func23 rfl rfl rfl (fun _ cs0 hb0=>?_)
 refine Ae<|Az .plain rfl (AK hS0 rfl rfl) (fun J2 u0 x0 A2=>?_)
 refine Af rfl<|Af rfl<|Aa<|Ae<|Ac (AE rfl (x0.memA .hd))<|Ab rfl ?_
 obtain ⟨b0,b2,h⟩:=bi h
 refine AQ (fst:=[]) (cap:=[]) .plain body54 rfl (e2 rfl rfl) (fun w9 hw9=>split_seen_c n _ w9 (x0.hL hL hw9) a0 (x0.km h0_3 hw9) a1 b2) rfl (fun K2 I2 v1 ⟨s0,hu_,U0⟩=>?_)
 subst hu_
 obtain ⟨g1,C2⟩:=x0.agr v1
 refine Ab rfl<|Ac (Ak rfl rfl)<|Ac (Ak rfl rfl)<|Az .plain rfl (Ba [vI 0,vI 0,vI 0,vN,vI 0] g1) (fun U2 v0 k1 P0=>?_)
 have K1:=Aw U0 P0
 refine Bu [vI b0.1.fj.fe,vI b0.1.fj.fc,vI b0.1.fj.fh,s0,vI b0.1.fu] k1 .hd (o5 rfl rfl rfl (BI K1) rfl) (fun V2 p0 t1=>?_)
 refine Af rfl<|Aa<|Aj<|Ae<|Ab rfl<|Ac (Bs (i:=b0.2) (j:=0) rfl rfl)<|Aa<|MX.ifn rfl h (fun Y0 h=>?_) (fun Y0 h=>?_)
 refine Am<|Ae<|Ac (AE rfl (p0.memA .hd)) ?_
 have X1:=Bt (α:=Int) p0 L
 obtain ⟨A0,g2,h⟩:=bi h
 have M1:=Aw U0 (Tt P0 t1)
 refine AQ (fst:=[]) (cap:=[]) .plain body55 rfl (e2 rfl rfl) (fun w9 hw9=>split_view_parents_c n _ w9 (p0.hL hL hw9) b0.1 (AH M1 hw9) ([]:List Int) (AH X1 hw9) g2) rfl (fun k2 V0 x1 ⟨H2,hu_,F0⟩=>?_)
 subst hu_
 obtain ⟨H0,D2⟩:=p0.agr x1
 refine BE (fst:=[]) (cap:=[]) (vs:=[V0,.func (.func 45) #[] #[],.func (.func 56) #[] #[]]) .plain body44 Tryz.func44 rfl rfl rfl rfl (e3 rfl rfl rfl) rfl (fun z2 y1 F2=>?_)
 refine Ae<|Af rfl<|Aa<|Aj<|Ae<|Ab rfl ?_
 have E2:A0.length ≤ 281474976710656:=AO F0
 refine Ac (AZ (xs:=A0) Tryz.underlying83 rfl F0)<|Ab rfl<|Aa<|Au ?_
 have I0:=H0.nilRow 3 (Rep.size Int)
 have u1:=BF H0 3 (Rep.size Int)
 have B1:=Av (cs:=[]) (xs:=([]:List Int)) I0 L (AC _ _)
 obtain ⟨G2,P1,D1⟩:=bind_in2 h
 refine AW (α:=Nat × (List Int) × Value × (List Value)) (fun ⟨c0,g0,d0,j0⟩=>[(1,.func (.func 45) #[] #[]),(2,.func (.func 56) #[] #[]),(6,d0),(9,V0),(10,vI ((A0.length:Nat):Int)),(11,vI ((c0:Nat):Int))]) (fun ⟨c0,g0,d0,j0⟩ z0=>St w z0 [.row w.heap.size 3 (Rep.size Int) d0 g0.length j0,.cells v0 [vI b0.1.fj.fe,vI b0.1.fj.fc,vI b0.1.fj.fh,s0,vI b0.1.fu] 97,.cells u0 [vI a0.fe,vI a0.fc,vI a0.fh,v0_3] 38]∧Tr k2 [.row w.heap.size 3 (Rep.size Int) vN (([]:List Int).length) [],.cells v0 [vI b0.1.fj.fe,vI b0.1.fj.fc,vI b0.1.fj.fh,s0,vI b0.1.fu] 97,.cells u0 [vI a0.fe,vI a0.fc,vI a0.fh,v0_3] 38] z0 [.row w.heap.size 3 (Rep.size Int) d0 g0.length j0,.cells v0 [vI b0.1.fj.fe,vI b0.1.fj.fc,vI b0.1.fj.fh,s0,vI b0.1.fu] 97,.cells u0 [vI a0.fe,vI a0.fc,vI a0.fh,v0_3] 38]∧Cells z0 (bl [.row w.heap.size 3 (Rep.size Int) d0 g0.length j0,.cells v0 [vI b0.1.fj.fe,vI b0.1.fj.fc,vI b0.1.fj.fh,s0,vI b0.1.fu] 97,.cells u0 [vI a0.fe,vI a0.fc,vI a0.fh,v0_3] 38] ++ L) j0 g0) (fun ⟨c0,g0,d0,j0⟩=>(c0,g0)) (0,([]:List Int),vN,[]) P1 ⟨rfl,rfl,rfl,rfl,rfl,rfl,trivial⟩ ⟨I0,AA _ _,B1⟩ ?_
 rintro t2 ⟨c0,g0,d0,j0⟩ z0 G0 ⟨y0,D0,E0⟩ h
 unfold split_People_l1 at h
 try dsimp only at h
 refine Ae<|Ac (Bg (i:=c0) (j:=A0.length) rfl rfl)<|Aa<|Aj<|AM rfl h (fun W0 h=>?_) (fun W0 h=>?_)
 refine Am<|Aj<|Au<|Ae ?_
 obtain ⟨t0,Y1,h⟩:=bi h
 have G1:=Aw F0 (Tt u1 D0)
 obtain ⟨s2,x2,C1,E1,y2,R1,F1⟩:=AS G1 Y1
 obtain rfl:=op_Tparent R1
 refine Ac (AY 3 c0 rfl C1 rfl rfl E1)<|Ac (AE rfl F1)<|Az .plain rfl (Ba [vI 0,vI 0,.int .u8 0] y0) (fun M2 u2 b1 J0=>?_)
 refine Bu [vI t0.fA,vI t0.fy,.int .u8 (t0.fq.toNat:Int)] b1 .hd (onesB rfl) (fun P2 q0 K0=>?_)
 refine Aa<|Ae<|Ab rfl<|Ac (AE rfl (q0.memA .hd)) ?_
 obtain ⟨q2,c2,h⟩:=bi h
 refine Bp (.bool q2) body45 rfl (e1 rfl) (fun w9 hw9=>split_every_c n _ w9 (q0.hL0 hL hw9) t0 c2) rfl<|Aa<|MX.ifb rfl h (fun X0 h=>?_) (fun X0 h=>?_)
 refine Al<|Ab rfl<|Ab rfl<|Ac (AE rfl (q0.memA .hd)) ?_
 obtain ⟨k0,d2,h⟩:=bi h
 refine Bp (vI k0) body56 rfl (e1 rfl) (fun w9 hw9=>split_people_c n _ w9 (q0.hL0 hL hw9) t0 d2) rfl<|Az .plain rfl (AF (α:=Int) (xs:=([k0]:List Int)) (vs:=[vI k0]) (ds' :=[vI k0]) rfl q0 el32 rfl (e1 rfl) (by kernel_rfl) rfl) (fun Q2 v2 B0 p1=>?_)
 have z1:=Av (cs:=[vI k0]) (xs:=(([k0]:List Int):List Int)) B0 L (Ax (cs:=[vI k0]) (ds:=[]) rfl (AC _ _))
 obtain ⟨p2,Z1,h⟩:=bi h
 have Q0:=Tt J0 (Tt K0 p1)
 have H1:=Ap E0 Q0
 refine RG.doesL .plain rfl (Bc (α:=Int) (ys:=([k0]:List Int)) Z1 B0 (fun _ _=>(.tl (.tl .hd))) el32 rfl rfl H1 (Src.row (α:=Int) B0 .hd z1)) (fun j2 R2 ⟨Z0,c1,q1,A1⟩=>?_)
 refine Af rfl<|Aa<|Aq<|Al<|Ac (AT (i:=c0) (j:=1) rfl rfl (by omega))<|Ab rfl<|Aa ?_
 obtain ⟨d1,M0⟩:=Ay c1 (.one (.tl (.tl .hd)) (.one (.tl (.tl .hd)) (.one (.tl (.tl .hd)) .done)))
 have I1:=Ap A1 M0
 have Q1:=Tt Q0 (Tt q1 M0)
 exact G0 (c0 + 1,p2,j2,Z0) _ _ ⟨rfl,rfl,rfl,rfl,rfl,rfl,trivial⟩ ⟨d1,(Tt D0 Q1),I1⟩ h
 refine Am<|Aq<|Al<|Ac (AT (i:=c0) (j:=1) rfl rfl (by omega))<|Ab rfl<|Aa ?_
 obtain ⟨j1,s1⟩:=Ay q0 (.one (.tl .hd) (.one (.tl .hd) (.one (.tl .hd) .done)))
 have R0:=Tt J0 (Tt K0 s1)
 have J1:=Ap E0 R0
 exact G0 (c0 + 1,g0,d0,j0) _ _ ⟨rfl,rfl,rfl,rfl,rfl,rfl,trivial⟩ ⟨j1,(Tt D0 R0),J1⟩ h
 refine AR rfl ?_
 have h:=D1 _ h
 try dsimp only at h
 refine Ae<|Ab rfl<|Af rfl<|Aa<|Ao rfl<|AB (u:=d0) y1 Tryz.func44 rfl (.cons (.tmp rfl) .nil) rfl<|Af rfl<|Af rfl<|Aa<|Ao rfl ?_
 have U1:=AU (α:=Int) y0 .hd E0 hL
 have C0:=Bk y0 .hd
 have B2:=Bl y0 .hd
 have V1:=Bm (α:=Int) (v:=d0) (xs:=g0) C0 L U1
 refine AB hb0 Tryz.func23 rfl (.cons (.tmp rfl) (.cons (.tmp rfl) .nil)) rfl ?_
 cases h
 exact ⟨C0.ag,fun w9 hw9=>⟨d0,rfl,C0.kd V1 hw9⟩⟩
 refine Ae<|Ab rfl<|Af rfl<|Af rfl<|Aa<|Ao rfl ?_
 have W1:=Bt (α:=Int) p0 L
 refine AB hb0 Tryz.func23 rfl (.cons (.tmp rfl) (.cons (.tmp rfl) .nil)) rfl ?_
 cases h
 exact ⟨p0.ag,fun w9 hw9=>⟨vN,rfl,p0.kd W1 hw9⟩⟩
def wardmotelaw23_truth_1_p (_n:Nat) (a0:Bool) (a1:Int) (a2:Bool):Option Bool:=
  (if (a0 == a2) = true then some (decide (a1 = 0)) else some false)
theorem wardmotelaw23_truth_1_c (n:Nat) (L:List Nat) (w:World) (_hL:∀ b ∈ L,b < w.heap.size) (a0:Bool) (a1:Int) (a2:Bool) {p2:Nat} (m2:∀ j9 v9,([.bool a2]:List Value)[j9]? = some v9 → w.cell? ((⟨p2,0,none⟩:Addr).add j9) = some v9)  {r:Bool} (h:wardmotelaw23_truth_1_p n a0 a1 a2 = some r) :
    Calls Tryz.prog 57 #[.bool a0,vI a1,.pointer (some ⟨p2,0,none⟩)] w (Gives w fun _ u=>u = .bool r):=by
 unfold wardmotelaw23_truth_1_p at h
 have hS0:=AD w
 refine AI Tryz.func57 rfl rfl rfl (fun _ cs0 hb0=>?_)
 refine Ae<|Af rfl<|Aa<|Ae<|Ab rfl<|AN rfl ((fun j9 v9 h9=>hS0.ag.cell0 (m2 j9 v9 h9)) 0 _ rfl)<|Ac (FV.eqlB (a:=a0) (b:=a2) Tryz.underlying4 rfl rfl)<|Ab rfl<|RG.ifb (s:=9) rfl h (fun c1 h=>?_) (fun c1 h=>?_)
 refine Ar (Ah rfl)<|Ar (FV.eql (i:=a1) (j:=0) rfl rfl)<|AG rfl rfl<|Af rfl<|Aa<|Ao rfl<|AL hb0 Tryz.func57 rfl rfl ?_
 cases h
 exact hS0.gv
 refine Ag<|Ag<|Bd rfl rfl<|Af rfl<|Aa<|Ao rfl<|AL hb0 Tryz.func57 rfl rfl ?_
 cases h
 exact hS0.gv
theorem wardmotelaw23_truth_c (_n:Nat) (L:List Nat) (w:World) (_hL:∀ b ∈ L,b < w.heap.size) (a0:Bool)  :
    Calls Tryz.prog 24 #[.bool a0] w (Gives w fun w' u=>∃ b0:Nat,u = .func (.func 57) #[] #[vP b0]∧St w w' [.cells b0 [.bool a0] 4]):=by
 have hS0:=AD w
 refine AI Tryz.func24 rfl rfl rfl (fun _ cs0 hb0=>?_)
 refine Ae<|Az .plain rfl (AK hS0 rfl rfl) (fun g0 b0 c0 d0=>?_)
 refine Af rfl<|Aa<|Ae<|Ac (FV.makeFunc (vs:=[]) (us:=[vP b0]) evs_nil (e1 rfl))<|Af rfl<|Aa<|Ao rfl<|AB (u:=.func (.func 57) #[] #[vP b0]) hb0 Tryz.func24 rfl (.cons (.tmp rfl) .nil) rfl ?_
 exact ⟨c0.ag,fun w9 hw9=>⟨b0,rfl,c0.agree hw9⟩⟩
theorem op_TSplits {w:World} {L:List Nat} {cs:List Value} {x:TSplits} (h:Rep.R w L cs x):cs = [vI x.fx,vI x.fv]:=by
  obtain ⟨c0,r0,rfl,h0,h⟩:=h
  have e0:c0 = [vI x.fx]:=h0; subst e0
  have e1:r0 = [vI x.fv]:=h; subst e1
  rfl
theorem mk_TSplits {w:World} {L:List Nat} (a0:Int) (a1:Int):Rep.R w L [vI a0,vI a1] (⟨a0,a1⟩:TSplits):=⟨[vI a0],[vI a1],rfl,rfl,rfl⟩
theorem ex_TSplits {a b:TSplits} (h0:a.fx = b.fx) (h1:a.fv = b.fv):a = b:=congr (congrArg TSplits.mk h0) h1
theorem eqlD_50 (a b:TSplits) (w9:World):(do eqGuard .eql 50 (.tmp 0) (.tmp 0) (.agg #[vI a.fx,vI a.fv]) (.agg #[vI b.fx,vI b.fv]); binOp .eql 50 (.agg #[vI a.fx,vI a.fv]) (.agg #[vI b.fx,vI b.fv]):Sem Value).run Tryz.prog w9 = .ok (.bool (decide (a = b))) w9:=
  eqAgg (ks:=[.int .i64,.int .i64]) (xs:=[vI a.fx,vI a.fv]) (ys:=[vI b.fx,vI b.fv]) (by kernel_rfl) (by kernel_rfl) (by kernel_rfl) rfl rfl ⟨fun h=>by
    simp only [allEq,veq,Bool.and_eq_true,beq_iff_eq,and_true] at h
    obtain ⟨h0,h1⟩:=h
    exact ex_TSplits h0 h1,fun h=>by subst h; simp [allEq,veq]⟩ _ _ w9
def wardmotelaw23_count_1_p (_n:Nat) (a0:TSplits) (a1:Int) (a2:Int) (a3:Int):Option Bool:=
  (if a0 = (⟨a2,a3⟩:TSplits) then some (decide (a1 = 0)) else some false)
theorem wardmotelaw23_count_1_c (n:Nat) (L:List Nat) (w:World) (_hL:∀ b ∈ L,b < w.heap.size) (a0:TSplits) (a1:Int) (a2:Int) {p2:Nat} (m2:∀ j9 v9,([vI a2]:List Value)[j9]? = some v9 → w.cell? ((⟨p2,0,none⟩:Addr).add j9) = some v9) (a3:Int) {p3:Nat} (m3:∀ j9 v9,([vI a3]:List Value)[j9]? = some v9 → w.cell? ((⟨p3,0,none⟩:Addr).add j9) = some v9)  {r:Bool} (h:wardmotelaw23_count_1_p n a0 a1 a2 a3 = some r) :
    Calls Tryz.prog 58 #[.agg #[vI a0.fx,vI a0.fv],vI a1,.pointer (some ⟨p2,0,none⟩),.pointer (some ⟨p3,0,none⟩)] w (Gives w fun _ u=>u = .bool r):=by
 unfold wardmotelaw23_count_1_p at h
 have hS0:=AD w
 refine AI Tryz.func58 rfl rfl rfl (fun _ cs0 hb0=>?_)
 refine Ae<|Az .plain rfl (AK hS0 rfl rfl) (fun j0 d0 b0 g0=>?_)
 refine Af rfl<|Aa<|Ae<|Ac (AE rfl (b0.memA .hd))<|AN rfl ((fun j9 v9 h9=>b0.ag.cell0 (m2 j9 v9 h9)) 0 _ rfl)<|AN rfl ((fun j9 v9 h9=>b0.ag.cell0 (m3 j9 v9 h9)) 0 _ rfl)<|Ac (Bh (vs:=[vI a2,vI a3]) (u:=.agg #[vI a2,vI a3]) (e2 rfl rfl) (fun w9=>by kernel_rfl))<|Ac (FV.eqlV (v:=.agg #[vI a0.fx,vI a0.fv]) (u:=.agg #[vI a2,vI a3]) rfl rfl (eqlD_50 a0 (⟨a2,a3⟩:TSplits)))<|Ab rfl<|Bx (s:=12) rfl h (fun c0 h=>?_) (fun c0 h=>?_)
 refine Ar (Ah rfl)<|Ar (FV.eql (i:=a1) (j:=0) rfl rfl)<|AG rfl rfl<|Af rfl<|Aa<|Ao rfl<|AL hb0 Tryz.func58 rfl rfl ?_
 cases h
 exact b0.gv
 refine Ag<|Ag<|Bd rfl rfl<|Af rfl<|Aa<|Ao rfl<|AL hb0 Tryz.func58 rfl rfl ?_
 cases h
 exact b0.gv
theorem wardmotelaw23_count_c (_n:Nat) (L:List Nat) (w:World) (_hL:∀ b ∈ L,b < w.heap.size) (a0:Int) (a1:Int)  :
    Calls Tryz.prog 26 #[vI a0,vI a1] w (Gives w fun w' u=>∃ b0 c0:Nat,u = .func (.func 58) #[] #[vP b0,vP c0]∧St w w' [.cells b0 [vI a0] 3,.cells c0 [vI a1] 3]):=by
 have hS0:=AD w
 refine AI Tryz.func26 rfl rfl rfl (fun _ cs0 hb0=>?_)
 refine Ae<|Az .plain rfl (AK hS0 rfl rfl) (fun s0 b0 g0 k0=>?_)
 refine Az .plain rfl (AK g0 rfl rfl) (fun t0 c0 j0 p0=>?_)
 refine Af rfl<|Aa<|Ae<|Ac (FV.makeFunc (vs:=[]) (us:=[vP b0,vP c0]) evs_nil (e2 rfl rfl))<|Af rfl<|Aa<|Ao rfl<|AB (u:=.func (.func 58) #[] #[vP b0,vP c0]) hb0 Tryz.func26 rfl (.cons (.tmp rfl) .nil) rfl ?_
 obtain ⟨d0,q0⟩:=Ay j0 (.one (.tl .hd) (.one .hd .done))
 exact ⟨d0.ag,fun w9 hw9=>⟨b0,c0,rfl,d0.agree hw9⟩⟩
def split_Forced_1_p (_n:Nat) (a0:Tparent) (a1:Int):Option Bool:=
  some (decide (a1 < a0.fy))
theorem split_Forced_1_c (n:Nat) (L:List Nat) (w:World) (_hL:∀ b ∈ L,b < w.heap.size) (a0:Tparent) (a1:Int) {p1:Nat} (m1:∀ j9 v9,([vI a1]:List Value)[j9]? = some v9 → w.cell? ((⟨p1,0,none⟩:Addr).add j9) = some v9)  {r:Bool} (h:split_Forced_1_p n a0 a1 = some r) :
    Calls Tryz.prog 61 #[.agg #[vI a0.fA,vI a0.fy,.int .u8 (a0.fq.toNat:Int)],.pointer (some ⟨p1,0,none⟩)] w (Gives w fun _ u=>u = .bool r):=by
 unfold split_Forced_1_p at h
 have hS0:=AD w
 refine AI Tryz.func61 rfl rfl rfl (fun _ cs0 hb0=>?_)
 refine Ae<|Az .plain rfl (AK hS0 rfl rfl) (fun g0 c0 b0 d0=>?_)
 refine Af rfl<|Aa<|Ae<|Bf 1 rfl<|AN rfl ((b0.memA .hd) 1 _ rfl)<|AN rfl ((fun j9 v9 h9=>b0.ag.cell0 (m1 j9 v9 h9)) 0 _ rfl)<|Ac (FV.gtr (i:=a0.fy) (j:=a1) rfl rfl)<|Af rfl<|Aa<|Ao rfl<|AL hb0 Tryz.func61 rfl rfl ?_
 cases h
 exact b0.gv
theorem body61:bodyB Tryz.prog 61 = true:=by kernel_rfl
def split_Forced_l1 (n:Nat) (j0:List Tparent) (a2:Int) (d0:Nat × (List Int) → Option (List Int)):Nat × (List Int) → Option (List Int)
  | (b0,c0)=>(if b0 < j0.length then (j0[b0]?).bind fun g0=>(split_Forced_1_p n g0 a2).bind fun p0=>(if p0 = true then (split_name_p n g0).bind fun q0=>(app c0 ([q0]:List Int)).bind fun k0=>d0 (b0 + 1,k0) else d0 (b0 + 1,c0)) else some c0)
def split_Forced_p (n:Nat) (a0:TRoll) (a1:Int) (a2:Int):Option ((List Int) × Int):=
  (split_seen_p n a0 a1).bind fun b0=>(if b0.2 = 0 then (split_view_parents_p n b0.1 ([]:List Int)).bind fun d0=>Option.bind (loopF (split_Forced_l1 n d0 a2) n (0,([]:List Int))) (fun c0=>some (c0,(0:Int))) else some (([]:List Int),b0.2))
theorem split_Forced_c (n:Nat) (L:List Nat) (w:World) (hL:∀ b ∈ L,b < w.heap.size) (a0:TRoll) {v0_3:Value} (h0_3:Rep.R w L [v0_3] a0.fm) (a1:Int) (a2:Int)  {r:(List Int) × Int} (h:split_Forced_p n a0 a1 a2 = some r) :
    Calls Tryz.prog 29 #[.agg #[vI a0.fe,vI a0.fc,vI a0.fh,v0_3],vI a1,vI a2] w (Gives w fun w' u=>∃ v0_0:Value,u = .tuple #[v0_0,vI r.2]∧Rep.R w' L [v0_0] r.1):=by
 unfold split_Forced_p at h
 have hS0:=AD w
 refine AI Tryz.func29 rfl rfl rfl (fun _ cs0 hb0=>?_)
 refine Ae<|Az .plain rfl (AK hS0 rfl rfl) (fun P2 v0 c1 C2=>?_)
 refine Az .plain rfl (AK c1 rfl rfl) (fun Q2 j0 z0 D2=>?_)
 refine Af rfl<|Af rfl<|Aa<|Ae<|Ac (AE rfl (z0.memA (.tl .hd)))<|Ab rfl ?_
 obtain ⟨b0,j2,h⟩:=bi h
 refine AQ (fst:=[]) (cap:=[]) .plain body54 rfl (e2 rfl rfl) (fun w9 hw9=>split_seen_c n _ w9 (z0.hL hL hw9) a0 (z0.km h0_3 hw9) a1 j2) rfl (fun X2 M2 y1 ⟨t0,hu_,V0⟩=>?_)
 subst hu_
 obtain ⟨p1,F2⟩:=z0.agr y1
 refine Ab rfl<|Ac (Ak rfl rfl)<|Ac (Ak rfl rfl)<|Az .plain rfl (Ba [vI 0,vI 0,vI 0,vN,vI 0] p1) (fun Y2 x0 q1 Q0=>?_)
 have P1:=Aw V0 Q0
 refine Bu [vI b0.1.fj.fe,vI b0.1.fj.fc,vI b0.1.fj.fh,t0,vI b0.1.fu] q1 .hd (o5 rfl rfl rfl (BI P1) rfl) (fun Z2 s0 v1=>?_)
 refine Af rfl<|Aa<|Aj<|Ae<|Ab rfl<|Ac (Bs (i:=b0.2) (j:=0) rfl rfl)<|Aa<|MX.ifn rfl h (fun Z0 h=>?_) (fun Z0 h=>?_)
 refine Am<|Ae<|Ac (AE rfl (s0.memA .hd)) ?_
 have Z1:=Bt (α:=Int) s0 L
 obtain ⟨B0,k2,h⟩:=bi h
 have Q1:=Aw V0 (Tt Q0 v1)
 refine AQ (fst:=[]) (cap:=[]) .plain body55 rfl (e2 rfl rfl) (fun w9 hw9=>split_view_parents_c n _ w9 (s0.hL hL hw9) b0.1 (AH Q1 hw9) ([]:List Int) (AH Z1 hw9) k2) rfl (fun q2 W0 z1 ⟨K2,hu_,G0⟩=>?_)
 subst hu_
 obtain ⟨I0,G2⟩:=s0.agr z1
 refine Ac (FV.makeFunc (vs:=[]) (us:=[vP j0]) evs_nil (e1 rfl))<|BE (fst:=[]) (cap:=[]) (vs:=[W0,.func (.func 61) #[] #[vP j0],.func (.func 51) #[] #[]]) .plain body44 Tryz.func44 rfl rfl rfl rfl (e3 rfl rfl rfl) rfl (fun B2 A1 I2=>?_)
 refine Ae<|Af rfl<|Aa<|Aj<|Ae<|Ab rfl ?_
 have H2:B0.length ≤ 281474976710656:=AO G0
 refine Ac (AZ (xs:=B0) Tryz.underlying83 rfl G0)<|Ab rfl<|Aa<|Au ?_
 have J0:=I0.nilRow 3 (Rep.size Int)
 have x1:=BF I0 3 (Rep.size Int)
 have D1:=Av (cs:=[]) (xs:=([]:List Int)) J0 L (AC _ _)
 obtain ⟨J2,R1,F1⟩:=bind_in2 h
 refine AW (α:=Nat × (List Int) × Value × (List Value)) (fun ⟨c0,g0,d0,k0⟩=>[(1,.func (.func 61) #[] #[vP j0]),(2,.func (.func 51) #[] #[]),(6,d0),(9,W0),(10,vI ((B0.length:Nat):Int)),(11,vI ((c0:Nat):Int))]) (fun ⟨c0,g0,d0,k0⟩ A0=>St w A0 [.row w.heap.size 3 (Rep.size Int) d0 g0.length k0,.cells x0 [vI b0.1.fj.fe,vI b0.1.fj.fc,vI b0.1.fj.fh,t0,vI b0.1.fu] 97,.cells j0 [vI a2] 3,.cells v0 [vI a0.fe,vI a0.fc,vI a0.fh,v0_3] 38]∧Tr q2 [.row w.heap.size 3 (Rep.size Int) vN (([]:List Int).length) [],.cells x0 [vI b0.1.fj.fe,vI b0.1.fj.fc,vI b0.1.fj.fh,t0,vI b0.1.fu] 97,.cells j0 [vI a2] 3,.cells v0 [vI a0.fe,vI a0.fc,vI a0.fh,v0_3] 38] A0 [.row w.heap.size 3 (Rep.size Int) d0 g0.length k0,.cells x0 [vI b0.1.fj.fe,vI b0.1.fj.fc,vI b0.1.fj.fh,t0,vI b0.1.fu] 97,.cells j0 [vI a2] 3,.cells v0 [vI a0.fe,vI a0.fc,vI a0.fh,v0_3] 38]∧Cells A0 (bl [.row w.heap.size 3 (Rep.size Int) d0 g0.length k0,.cells x0 [vI b0.1.fj.fe,vI b0.1.fj.fc,vI b0.1.fj.fh,t0,vI b0.1.fu] 97,.cells j0 [vI a2] 3,.cells v0 [vI a0.fe,vI a0.fc,vI a0.fh,v0_3] 38] ++ L) k0 g0) (fun ⟨c0,g0,d0,k0⟩=>(c0,g0)) (0,([]:List Int),vN,[]) R1 ⟨rfl,rfl,rfl,rfl,rfl,rfl,trivial⟩ ⟨J0,AA _ _,D1⟩ ?_
 rintro v2 ⟨c0,g0,d0,k0⟩ A0 H0 ⟨y0,E0,F0⟩ h
 unfold split_Forced_l1 at h
 try dsimp only at h
 refine Ae<|Ac (Bg (i:=c0) (j:=B0.length) rfl rfl)<|Aa<|Aj<|AM rfl h (fun X0 h=>?_) (fun X0 h=>?_)
 refine Am<|Aj<|Au<|Ae ?_
 obtain ⟨u0,b2,h⟩:=bi h
 have I1:=Aw G0 (Tt x1 E0)
 obtain ⟨u2,z2,E1,G1,A2,V1,H1⟩:=AS I1 b2
 obtain rfl:=op_Tparent V1
 refine Ac (AY 3 c0 rfl E1 rfl rfl G1)<|Ac (AE rfl H1)<|Az .plain rfl (Ba [vI 0,vI 0,.int .u8 0] y0) (fun R2 x2 d1 K0=>?_)
 refine Bu [vI u0.fA,vI u0.fy,.int .u8 (u0.fq.toNat:Int)] d1 .hd (onesB rfl) (fun U2 q0 M0=>?_)
 refine Aa<|Ae<|Ab rfl<|Ac (AE rfl (q0.memA .hd)) ?_
 obtain ⟨t2,d2,h⟩:=bi h
 refine RG.callq' (v:=.bool t2) (fst:=[]) (cap:=[vP j0]) .plain body61 rfl (e1 rfl) (fun w9 hw9=>split_Forced_1_c n _ w9 (q0.hL0 hL hw9) u0 a2 (fun j9 v9 h9=>hw9.cell0 ((q0.memA (.tl (.tl (.tl .hd)))) j9 v9 h9)) d2) rfl<|Aa<|MX.ifb rfl h (fun Y0 h=>?_) (fun Y0 h=>?_)
 refine Al<|Ab rfl<|Ab rfl<|Ac (AE rfl (q0.memA .hd)) ?_
 obtain ⟨p0,g2,h⟩:=bi h
 refine Bp (vI p0) body51 rfl (e1 rfl) (fun w9 hw9=>split_name_c n _ w9 (q0.hL0 hL hw9) u0 g2) rfl<|Az .plain rfl (AF (α:=Int) (xs:=([p0]:List Int)) (vs:=[vI p0]) (ds' :=[vI p0]) rfl q0 el32 rfl (e1 rfl) (by kernel_rfl) rfl) (fun V2 y2 C0 s1=>?_)
 have B1:=Av (cs:=[vI p0]) (xs:=(([p0]:List Int):List Int)) C0 L (Ax (cs:=[vI p0]) (ds:=[]) rfl (AC _ _))
 obtain ⟨s2,c2,h⟩:=bi h
 have R0:=Tt K0 (Tt M0 s1)
 have J1:=Ap F0 R0
 refine RG.doesL .plain rfl (Bc (α:=Int) (ys:=([p0]:List Int)) c2 C0 (fun _ _=>(.tl (.tl .hd))) el32 rfl rfl J1 (Src.row (α:=Int) C0 .hd B1)) (fun p2 W2 ⟨b1,g1,t1,C1⟩=>?_)
 refine Af rfl<|Aa<|Aq<|Al<|Ac (AT (i:=c0) (j:=1) rfl rfl (by omega))<|Ab rfl<|Aa ?_
 obtain ⟨j1,P0⟩:=Ay g1 (.one (.tl (.tl .hd)) (.one (.tl (.tl .hd)) (.one (.tl (.tl .hd)) (.one (.tl (.tl .hd)) .done))))
 have K1:=Ap C1 P0
 have U1:=Tt R0 (Tt t1 P0)
 exact H0 (c0 + 1,s2,p2,b1) _ _ ⟨rfl,rfl,rfl,rfl,rfl,rfl,trivial⟩ ⟨j1,(Tt E0 U1),K1⟩ h
 refine Am<|Aq<|Al<|Ac (AT (i:=c0) (j:=1) rfl rfl (by omega))<|Ab rfl<|Aa ?_
 obtain ⟨k1,u1⟩:=Ay q0 (.one (.tl .hd) (.one (.tl .hd) (.one (.tl .hd) (.one (.tl .hd) .done))))
 have U0:=Tt K0 (Tt M0 u1)
 have M1:=Ap F0 U0
 exact H0 (c0 + 1,g0,d0,k0) _ _ ⟨rfl,rfl,rfl,rfl,rfl,rfl,trivial⟩ ⟨k1,(Tt E0 U0),M1⟩ h
 refine AR rfl ?_
 have h:=F1 _ h
 try dsimp only at h
 refine Ae<|Ab rfl<|Af rfl<|Aa<|Ao rfl<|AB (u:=d0) A1 Tryz.func44 rfl (.cons (.tmp rfl) .nil) rfl<|Af rfl<|Af rfl<|Aa<|Ao rfl ?_
 have W1:=AU (α:=Int) y0 .hd F0 hL
 have D0:=Bk y0 .hd
 have E2:=Bl y0 .hd
 have X1:=Bm (α:=Int) (v:=d0) (xs:=g0) D0 L W1
 refine AB hb0 Tryz.func29 rfl (.cons (.tmp rfl) (.cons (.tmp rfl) .nil)) rfl ?_
 cases h
 exact ⟨D0.ag,fun w9 hw9=>⟨d0,rfl,D0.kd X1 hw9⟩⟩
 refine Ae<|Ab rfl<|Af rfl<|Af rfl<|Aa<|Ao rfl ?_
 have Y1:=Bt (α:=Int) s0 L
 refine AB hb0 Tryz.func29 rfl (.cons (.tmp rfl) (.cons (.tmp rfl) .nil)) rfl ?_
 cases h
 exact ⟨s0.ag,fun w9 hw9=>⟨vN,rfl,s0.kd Y1 hw9⟩⟩
def tb21_6:List (Nat × Nat × Nat):=[(0,65536,1),(0,131072,32),(3,262144,196608),(4,524288,262144),(0,1048576,2),(0,2097152,32),(48,4194304,3145728),(64,8388608,4194304),(136,16777216,8912896)]
def slices_Equal_int_int_l1 (_n:Nat) (a0:List Int) (a1:List Int) (b0:Nat → Option (Bool ⊕ Unit)):Nat → Option (Bool ⊕ Unit)
  | i32=>(if i32 < a0.length then (a0[i32]?).bind fun c0=>(a1[i32]?).bind fun d0=>(if c0 = d0 then b0 (i32 + 1) else some (.inl false)) else some (.inr ()))
def slices_Equal_int_int_p (n:Nat) (a0:List Int) (a1:List Int):Option Bool:=
  (if a0.length = a1.length then thn (loopF (slices_Equal_int_int_l1 n a0 a1) n 0) (fun _=>some true) else some false)
theorem slices_Equal_int_int_c (n:Nat) (L:List Nat) (w:World) (_hL:∀ b ∈ L,b < w.heap.size) (a0:List Int) {v0_0:Value} (h0_0:Rep.R w L [v0_0] a0) (a1:List Int) {v1_0:Value} (h1_0:Rep.R w L [v1_0] a1)  {r:Bool} (h:slices_Equal_int_int_p n a0 a1 = some r) :
    Calls Tryz.prog 21 #[v0_0,v1_0] w (Gives w fun _ u=>u = .bool r):=by
 unfold slices_Equal_int_int_p at h
 have hS0:=AD w
 refine AI Tryz.func21 rfl rfl rfl (fun _ cs0 hb0=>?_)
 refine Ae<|Af rfl<|Aa<|Aj<|Ae<|Ab rfl ?_
 have hl1:a0.length ≤ 281474976710656:=AO h0_0
 refine Ac (AZ (xs:=a0) Tryz.underlying32 rfl h0_0)<|Ab rfl ?_
 have hl2:a1.length ≤ 281474976710656:=AO h1_0
 refine Ac (AZ (xs:=a1) Tryz.underlying32 rfl h1_0)<|Ac (FV.neqN (i:=a0.length) (j:=a1.length) rfl rfl)<|Aa<|MX.ifn rfl h (fun c3 h=>?_) (fun c3 h=>?_)
 refine Am<|Aj<|Ae<|Ab rfl<|Ac (AZ (xs:=a0) Tryz.underlying32 rfl h0_0)<|Ab rfl<|Aa<|Au ?_
 obtain ⟨X0,I0,j0⟩:=thn_in h
 refine AW (α:=Nat) (fun i32=>[(0,v0_0),(1,v1_0),(12,vI ((a0.length:Nat):Int)),(13,vI ((i32:Nat):Int))]) (fun i32 g0=>St w g0 []∧Tr w [] g0 []) (fun i32=>i32) 0 I0 ⟨rfl,rfl,rfl,rfl,trivial⟩ ⟨hS0,AA _ _⟩ ?_
 rintro U0 i32 g0 v0 ⟨d0,x0⟩ h
 unfold slices_Equal_int_int_l1 at h
 try dsimp only at h
 refine Ae<|Ac (Bg (i:=i32) (j:=a0.length) rfl rfl)<|Aa<|Aj<|AM rfl h (fun q0 h=>?_) (fun q0 h=>?_)
 refine Am<|Aj<|Au<|Ae<|Ab rfl<|Af rfl<|Aa<|Aj<|dt 9 tb21_6 (fun b0 c0=>?_)
 refine Ai 0 1 b0 rfl c0 (fun _=>Ah rfl) rfl<|Ai 1 3 b0 rfl c0 (fun _=>Ah rfl) rfl ?_
 obtain ⟨k0,M0,h⟩:=bi h
 have F0:=Bn h0_0 d0
 obtain ⟨Q0,V0,y0,C0,t0,J0,E0⟩:=AS F0 M0
 have z0:t0 = [vI k0]:=J0; subst z0
 refine Ai 2 7 b0 rfl c0 (fun _=>AY 1 i32 rfl y0 rfl rfl C0) rfl<|AV 3 15 256 b0 rfl c0 (AJ rfl (E0 0 _ rfl)) rfl<|Ai 4 31 b0 rfl c0 (fun _=>Ah rfl) rfl<|Ai 5 63 b0 rfl c0 (fun _=>Ah rfl) rfl ?_
 obtain ⟨p0,P0,h⟩:=bi h
 have H0:=Bn h1_0 d0
 obtain ⟨R0,W0,A0,D0,u0,K0,G0⟩:=AS H0 P0
 have B0:u0 = [vI p0]:=K0; subst B0
 refine Ai 6 127 b0 rfl c0 (fun _=>AY 1 i32 rfl A0 rfl rfl D0) rfl<|AV 7 255 256 b0 rfl c0 (AJ rfl (G0 0 _ rfl)) rfl<|Ai 8 511 b0 rfl c0 (fun _=>Bs (i:=k0) (j:=p0) rfl rfl) rfl<|AX (dk b0)<|MX.ifn rfl h (fun s0 h=>?_) (fun s0 h=>?_)
 refine Am<|Aq<|Al<|Ac (AT (i:=i32) (j:=1) rfl rfl (by omega))<|Ab rfl<|Aa ?_
 exact v0 (i32 + 1) _ _ ⟨rfl,rfl,rfl,rfl,trivial⟩ ⟨d0,x0⟩ h
 refine Ae<|Af rfl<|Aa ?_
 have h:=thn_inl h j0
 refine Ao rfl<|AL hb0 Tryz.func21 rfl rfl ?_
 cases h
 exact d0.gv
 refine AR rfl ?_
 have h:=thn_inr h j0
 try dsimp only at h
 refine Ae<|Af rfl<|Aa<|Ao rfl<|AL hb0 Tryz.func21 rfl rfl ?_
 cases h
 exact d0.gv
 refine Ae<|Af rfl<|Aa<|Ao rfl<|AL hb0 Tryz.func21 rfl rfl ?_
 cases h
 exact hS0.gv
theorem body21:bodyB Tryz.prog 21 = true:=by kernel_rfl
def wardmotelaw23_is_1_p (n:Nat) (a0:List Int) (a1:Int) (a2:List Int):Option Bool:=
  (slices_Equal_int_int_p n a0 a2).bind fun y1=>(if y1 = true then some (decide (a1 = 0)) else some false)
theorem wardmotelaw23_is_1_c (n:Nat) (L:List Nat) (w:World) (hL:∀ b ∈ L,b < w.heap.size) (a0:List Int) {v0_0:Value} (h0_0:Rep.R w L [v0_0] a0) (a1:Int) (a2:List Int) {v2_0:Value} (h2_0:Rep.R w L [v2_0] a2) {p2:Nat} (m2:∀ j9 v9,([v2_0]:List Value)[j9]? = some v9 → w.cell? ((⟨p2,0,none⟩:Addr).add j9) = some v9)  {r:Bool} (h:wardmotelaw23_is_1_p n a0 a1 a2 = some r) :
    Calls Tryz.prog 68 #[v0_0,vI a1,.pointer (some ⟨p2,0,none⟩)] w (Gives w fun _ u=>u = .bool r):=by
 unfold wardmotelaw23_is_1_p at h
 have hS0:=AD w
 refine AI Tryz.func68 rfl rfl rfl (fun _ cs0 hb0=>?_)
 refine Ae<|Af rfl<|Aa<|Ae<|Ab rfl<|AN rfl ((fun j9 v9 h9=>hS0.ag.cell0 (m2 j9 v9 h9)) 0 _ rfl) ?_
 obtain ⟨y1,hy1,h⟩:=bi h
 refine Bp (.bool y1) body21 rfl (e2 rfl rfl) (fun w9 hw9=>slices_Equal_int_int_c n _ w9 (hS0.hL0 hL hw9) a0 (hS0.kd h0_0 hw9) a2 (hS0.kd h2_0 hw9) hy1) rfl<|Ab rfl<|RG.ifb (s:=9) rfl h (fun c2 h=>?_) (fun c2 h=>?_)
 refine Ar (Ah rfl)<|Ar (FV.eql (i:=a1) (j:=0) rfl rfl)<|AG rfl rfl<|Af rfl<|Aa<|Ao rfl<|AL hb0 Tryz.func68 rfl rfl ?_
 cases h
 exact hS0.gv
 refine Ag<|Ag<|Bd rfl rfl<|Af rfl<|Aa<|Ao rfl<|AL hb0 Tryz.func68 rfl rfl ?_
 cases h
 exact hS0.gv
theorem wardmotelaw23_is_c (_n:Nat) (L:List Nat) (w:World) (_hL:∀ b ∈ L,b < w.heap.size) (a0:List Int) {v0_0:Value} (h0_0:Rep.R w L [v0_0] a0)  :
    Calls Tryz.prog 36 #[v0_0] w (Gives w fun w' u=>∃ b0:Nat,u = .func (.func 68) #[] #[vP b0]∧St w w' [.cells b0 [v0_0] 32]):=by
 have hS0:=AD w
 refine AI Tryz.func36 rfl rfl rfl (fun _ cs0 hb0=>?_)
 refine Ae<|Az .plain rfl (AK hS0 rfl (Rep.c1 h0_0)) (fun g0 b0 c0 d0=>?_)
 refine Af rfl<|Aa<|Ae<|Ac (FV.makeFunc (vs:=[]) (us:=[vP b0]) evs_nil (e1 rfl))<|Af rfl<|Aa<|Ao rfl<|AB (u:=.func (.func 68) #[] #[vP b0]) hb0 Tryz.func36 rfl (.cons (.tmp rfl) .nil) rfl ?_
 exact ⟨c0.ag,fun w9 hw9=>⟨b0,rfl,c0.agree hw9⟩⟩
def tb37_5:List (Nat × Nat × Nat):=[(0,1024,2),(1,2048,1024),(0,4096,8),(0,8192,4),(8,16384,8192),(16,32768,16384),(0,65536,0),(0,131072,4),(192,262144,196608),(256,524288,262144),(548,1048576,561152),(1024,2097152,1048576),(2050,4194304,2099200),(8191,8388608,2),(16383,0,12582912)]
theorem el36:ElT Tryz.prog 36 61 (Rep.size TUnit) 104 (.agg #[.string ⟨#[]⟩,vI 0,vN,vN,vN,.bool false]) [.string ⟨#[]⟩,vI 0,vN,vN,vN,.bool false]:=⟨Tryz.underlying36,by kernel_rfl,rfl,rfl,rfl,rfl⟩
def wardmotelaw23_four_p (_n:Nat):Option TRoll:=
  (app ([]:List TUnit) ([(⟨⟨#[97]⟩,(10:Int),([]:List Int),([]:List Int),([(5:Int)]:List Int),false⟩:TUnit)]:List TUnit)).bind fun d0=>(app d0 ([(⟨⟨#[98]⟩,(20:Int),([]:List Int),([]:List Int),([(5:Int)]:List Int),false⟩:TUnit)]:List TUnit)).bind fun g0=>(app g0 ([(⟨⟨#[99]⟩,(30:Int),([]:List Int),([]:List Int),([(2:Int)]:List Int),false⟩:TUnit)]:List TUnit)).bind fun b0=>(app b0 ([(⟨⟨#[100]⟩,(40:Int),([]:List Int),([]:List Int),([(2:Int)]:List Int),false⟩:TUnit)]:List TUnit)).bind fun c0=>some (⟨(0:Int),(0:Int),(1:Int),c0⟩:TRoll)
theorem wardmotelaw23_four_c (n:Nat) (L:List Nat) (w:World) (hL:∀ b ∈ L,b < w.heap.size)  {r:TRoll} (h:wardmotelaw23_four_p n = some r) :
    Calls Tryz.prog 37 #[] w (Gives w fun w' u=>∃ (v0_3:Value) (cs0_3:List Value),u = .agg #[vI r.fe,vI r.fc,vI r.fh,v0_3]∧St w w' (rowsOf w.heap.size [(61,Rep.size TUnit,v0_3,r.fm.length,cs0_3)])∧Cells w' (bl (rowsOf w.heap.size [(61,Rep.size TUnit,v0_3,r.fm.length,cs0_3)]) ++ L) cs0_3 (r.fm:List TUnit)):=by
 unfold wardmotelaw23_four_p at h
 have hS0:=AD w
 refine AI Tryz.func37 rfl rfl rfl (fun _ cs0 hb0=>?_)
 refine Ae<|Az .plain rfl (Ba [vI 0,vI 0,vI 0,vN] hS0) (fun U3 j3 y1 y3=>?_)
 refine Aa<|Ae<|Ac (Bh (vs:=[vI 1]) (u:=.agg #[vI 0,vI 0,vI 1,vN]) (e1 rfl) (fun w9=>by kernel_rfl))<|Az .plain rfl (Ba [vI 0,vI 0,vI 0,vN] y1) (fun b4 p3 A1 A3=>?_)
 refine Bu [vI 0,vI 0,vI 1,vN] A1 .hd (onesB rfl) (fun j4 d1 B3=>?_)
 refine Aa<|Aj<|Ae<|Ac (Bh (vs:=[.string ⟨#[97]⟩,.string ⟨#[98]⟩,.string ⟨#[99]⟩,.string ⟨#[100]⟩]) (u:=.agg #[.string ⟨#[97]⟩,.string ⟨#[98]⟩,.string ⟨#[99]⟩,.string ⟨#[100]⟩]) (e4 rfl rfl rfl rfl) (fun w9=>by kernel_rfl))<|Ab rfl<|Aa<|Au<|MX.loop1<|Ae<|Ac (Bg (i:=0) (j:=4) rfl rfl)<|Aa<|Aj<|Bq rfl<|Am<|Aj<|Au<|Ae<|Ab rfl<|Ac (FV.idx1 (cs:=[.string ⟨#[97]⟩,.string ⟨#[98]⟩,.string ⟨#[99]⟩,.string ⟨#[100]⟩]) (k:=0) (m:=1) (len:=4) (by kernel_rfl) (by kernel_rfl) rfl rfl rfl (by omega) rfl)<|Af rfl<|Af rfl<|Aa<|dt 12 tb37_5 (fun d0 p0=>?_)
 refine Ai 0 1 d0 rfl p0 (fun _=>Br 3 rfl) rfl<|AV 1 3 28672 d0 rfl p0 (AJ rfl ((d1.memA .hd) 3 _ rfl)) rfl<|Ai 2 7 d0 rfl p0 (fun _=>Ah rfl) rfl<|Ai 3 15 d0 rfl p0 (fun _=>Ah rfl) rfl<|Ai 4 31 d0 rfl p0 (fun _=>FV.add (i:=0) (j:=1) (r:=1) rfl rfl (by decide)) rfl<|Ai 5 63 d0 rfl p0 (fun _=>FV.mul (i:=10) (j:=1) (r:=10) rfl rfl (by decide)) rfl<|Ai 6 127 d0 rfl p0 (fun _=>Bh (vs:=[vI 5,vI 5,vI 2,vI 2]) (u:=.agg #[vI 5,vI 5,vI 2,vI 2]) (e4 rfl rfl rfl rfl) (fun w9=>by kernel_rfl)) rfl<|Ai 7 255 d0 rfl p0 (fun _=>Ah rfl) rfl<|Ai 8 511 d0 rfl p0 (fun _=>FV.idx1 (cs:=[vI 5,vI 5,vI 2,vI 2]) (k:=0) (m:=1) (len:=4) (by kernel_rfl) (by kernel_rfl) rfl rfl rfl (by omega) rfl) rfl<|RD.nu 9 1023 d0 rfl .plain rfl (AF (α:=Int) (xs:=([(5:Int)]:List Int)) (vs:=[vI 5]) (ds' :=[vI 5]) rfl d1 el32 rfl (e1 rfl) (by kernel_rfl) rfl) (fun k4 u0 A0 C3=>?_)
 have q2:=Av (cs:=[vI 5]) (xs:=(([(5:Int)]:List Int):List Int)) A0 L (Ax (cs:=[vI 5]) (ds:=[]) rfl (AC _ _))
 refine Ai 10 2047 d0 rfl p0 (fun _=>Bh (vs:=[.string ⟨#[97]⟩,vI 10,(vS u0 1)]) (u:=.agg #[.string ⟨#[97]⟩,vI 10,vN,vN,(vS u0 1),.bool false]) (e3 rfl rfl rfl) (fun w9=>by kernel_rfl)) rfl ?_
 have K3:=Bt (α:=Int) A0 L
 have V2:=AU (α:=Int) A0 .hd q2 hL
 have M0:=Bk A0 .hd
 have D3:=Bl A0 .hd
 have W2:=Bm (α:=Int) (v:=(vS u0 1)) (xs:=([(5:Int)]:List Int)) M0 L V2
 have M3:=Bt (α:=Int) M0 L
 refine RD.nu 11 4095 d0 rfl .plain rfl (AF (α:=TUnit) (xs:=([(⟨⟨#[97]⟩,(10:Int),([]:List Int),([]:List Int),([(5:Int)]:List Int),false⟩:TUnit)]:List TUnit)) (vs:=[.agg #[.string ⟨#[97]⟩,vI 10,vN,vN,(vS u0 1),.bool false]]) (ds' :=[.string ⟨#[97]⟩,vI 10,vN,vN,(vS u0 1),.bool false]) rfl M0 el36 rfl (e1 rfl) (by kernel_rfl) rfl) (fun p4 q3 E0 R1=>?_)
 have u1:=Bt (α:=Int) E0 L
 have E2:=Aw W2 R1
 have s2:=Av (cs:=[.string ⟨#[97]⟩,vI 10,vN,vN,(vS u0 1),.bool false]) (xs:=(([(⟨⟨#[97]⟩,(10:Int),([]:List Int),([]:List Int),([(5:Int)]:List Int),false⟩:TUnit)]:List TUnit):List TUnit)) E0 L (Ax (cs:=[.string ⟨#[97]⟩,vI 10,vN,vN,(vS u0 1),.bool false]) (ds:=[]) (mk_TUnit ⟨#[97]⟩ (10:Int) ([]:List Int) u1 ([]:List Int) u1 ([(5:Int)]:List Int) E2 false) (AC _ _))
 have P0:=E0.nilRow 61 (Rep.size TUnit)
 have U1:=BF E0 61 (Rep.size TUnit)
 have t2:=Av (cs:=[]) (xs:=([]:List TUnit)) P0 L (AC _ _)
 obtain ⟨A4,c3,h⟩:=bi h
 have F2:=Ap s2 U1
 refine RD.one (i:=12) (rk d0) (BD (m' :=8191) (sk d0) rfl rfl .plain rfl (Bc (α:=TUnit) (ys:=([(⟨⟨#[97]⟩,(10:Int),([]:List Int),([]:List Int),([(5:Int)]:List Int),false⟩:TUnit)]:List TUnit)) c3 P0 (fun _ _=>.hd) el36 rfl rfl t2 (Src.row (α:=TUnit) P0 (.tl .hd) F2)) (fun W0 q4 ⟨u3,Q0,E3,u2⟩=>?_))
 refine Ai 13 16383 d0 rfl p0 (fun _=>Br 3 rfl) rfl<|RD.nw 14 32767 d0 rfl rfl .plain (BH (j:=3) (old:=[vI 0,vI 0,vI 1,vN]) (news:=[W0]) (new' :=[vI 0,vI 0,vI 1,W0]) Q0 (.tl (.tl .hd)) rfl rfl rfl (St.c1 (α:=TUnit) Q0 .hd) rfl rfl (o1 (St.o1 (α:=TUnit) Q0 .hd)) rfl) (fun s4 C1 V1=>?_)
 refine AX (dk d0)<|Aq<|Al<|Ac (FV.add (i:=0) (j:=1) (r:=1) rfl rfl (by decide))<|Ab rfl<|Aa<|MX.again1 ?_
 obtain ⟨g1,W1⟩:=Ay C1 (.one .hd (.one (.tl .hd) (.one (.tl .hd) .done)))
 refine Ae<|Ac (Bg (i:=1) (j:=4) rfl rfl)<|Aa<|Aj<|Bq rfl<|Am<|Aj<|Au<|Ae<|Ab rfl<|Ac (FV.idx1 (cs:=[.string ⟨#[97]⟩,.string ⟨#[98]⟩,.string ⟨#[99]⟩,.string ⟨#[100]⟩]) (k:=1) (m:=1) (len:=4) (by kernel_rfl) (by kernel_rfl) rfl rfl rfl (by omega) rfl)<|Af rfl<|Af rfl<|Aa<|dt 12 tb37_5 (fun g0 q0=>?_)
 refine Ai 0 1 g0 rfl q0 (fun _=>Br 3 rfl) rfl<|AV 1 3 28672 g0 rfl q0 (AJ rfl ((g1.memA (.tl .hd)) 3 _ rfl)) rfl<|Ai 2 7 g0 rfl q0 (fun _=>Ah rfl) rfl<|Ai 3 15 g0 rfl q0 (fun _=>Ah rfl) rfl<|Ai 4 31 g0 rfl q0 (fun _=>FV.add (i:=1) (j:=1) (r:=2) rfl rfl (by decide)) rfl<|Ai 5 63 g0 rfl q0 (fun _=>FV.mul (i:=10) (j:=2) (r:=20) rfl rfl (by decide)) rfl<|Ai 6 127 g0 rfl q0 (fun _=>Bh (vs:=[vI 5,vI 5,vI 2,vI 2]) (u:=.agg #[vI 5,vI 5,vI 2,vI 2]) (e4 rfl rfl rfl rfl) (fun w9=>by kernel_rfl)) rfl<|Ai 7 255 g0 rfl q0 (fun _=>Ah rfl) rfl<|Ai 8 511 g0 rfl q0 (fun _=>FV.idx1 (cs:=[vI 5,vI 5,vI 2,vI 2]) (k:=1) (m:=1) (len:=4) (by kernel_rfl) (by kernel_rfl) rfl rfl rfl (by omega) rfl) rfl<|RD.nu 9 1023 g0 rfl .plain rfl (AF (α:=Int) (xs:=([(5:Int)]:List Int)) (vs:=[vI 5]) (ds' :=[vI 5]) rfl g1 el32 rfl (e1 rfl) (by kernel_rfl) rfl) (fun t4 v0 B0 X1=>?_)
 have v2:=Av (cs:=[vI 5]) (xs:=(([(5:Int)]:List Int):List Int)) B0 L (Ax (cs:=[vI 5]) (ds:=[]) rfl (AC _ _))
 refine Ai 10 2047 g0 rfl q0 (fun _=>Bh (vs:=[.string ⟨#[98]⟩,vI 20,(vS v0 1)]) (u:=.agg #[.string ⟨#[98]⟩,vI 20,vN,vN,(vS v0 1),.bool false]) (e3 rfl rfl rfl) (fun w9=>by kernel_rfl)) rfl ?_
 have P3:=Bt (α:=Int) B0 L
 have X2:=AU (α:=Int) B0 .hd v2 hL
 have R0:=Bk B0 .hd
 have Y1:=Bl B0 .hd
 have Y2:=Bm (α:=Int) (v:=(vS v0 1)) (xs:=([(5:Int)]:List Int)) R0 L X2
 have Q3:=Bt (α:=Int) R0 L
 refine RD.nu 11 4095 g0 rfl .plain rfl (AF (α:=TUnit) (xs:=([(⟨⟨#[98]⟩,(20:Int),([]:List Int),([]:List Int),([(5:Int)]:List Int),false⟩:TUnit)]:List TUnit)) (vs:=[.agg #[.string ⟨#[98]⟩,vI 20,vN,vN,(vS v0 1),.bool false]]) (ds' :=[.string ⟨#[98]⟩,vI 20,vN,vN,(vS v0 1),.bool false]) rfl R0 el36 rfl (e1 rfl) (by kernel_rfl) rfl) (fun u4 s3 F0 q1=>?_)
 have v1:=Bt (α:=Int) F0 L
 have G2:=Aw Y2 q1
 have x2:=Av (cs:=[.string ⟨#[98]⟩,vI 20,vN,vN,(vS v0 1),.bool false]) (xs:=(([(⟨⟨#[98]⟩,(20:Int),([]:List Int),([]:List Int),([(5:Int)]:List Int),false⟩:TUnit)]:List TUnit):List TUnit)) F0 L (Ax (cs:=[.string ⟨#[98]⟩,vI 20,vN,vN,(vS v0 1),.bool false]) (ds:=[]) (mk_TUnit ⟨#[98]⟩ (20:Int) ([]:List Int) v1 ([]:List Int) v1 ([(5:Int)]:List Int) G2 false) (AC _ _))
 obtain ⟨B4,d3,h⟩:=bi h
 have M2:=Tt V1 (Tt W1 (Tt X1 (Tt Y1 q1)))
 have H2:=Ap u2 M2
 refine RD.one (i:=12) (rk g0) (BD (m' :=8191) (sk g0) rfl rfl .plain rfl (Bc (α:=TUnit) (ys:=([(⟨⟨#[98]⟩,(20:Int),([]:List Int),([]:List Int),([(5:Int)]:List Int),false⟩:TUnit)]:List TUnit)) d3 F0 (fun _ _=>(.tl .hd)) el36 rfl rfl H2 (Src.row (α:=TUnit) F0 .hd x2)) (fun X0 v4 ⟨v3,U0,F3,y2⟩=>?_))
 refine Ai 13 16383 g0 rfl q0 (fun _=>Br 3 rfl) rfl<|RD.nw 14 32767 g0 rfl rfl .plain (BH (j:=3) (old:=[vI 0,vI 0,vI 1,W0]) (news:=[X0]) (new' :=[vI 0,vI 0,vI 1,X0]) U0 (.tl (.tl .hd)) rfl rfl rfl (St.c1 (α:=TUnit) U0 (.tl .hd)) rfl rfl (o1 (St.o1 (α:=TUnit) U0 (.tl .hd))) rfl) (fun x4 D1 Z1=>?_)
 refine AX (dk g0)<|Aq<|Al<|Ac (FV.add (i:=1) (j:=1) (r:=2) rfl rfl (by decide))<|Ab rfl<|Aa<|MX.again1 ?_
 obtain ⟨j1,b2⟩:=Ay D1 (.one (.tl .hd) (.one (.tl .hd) (.one (.tl .hd) .done)))
 refine Ae<|Ac (Bg (i:=2) (j:=4) rfl rfl)<|Aa<|Aj<|Bq rfl<|Am<|Aj<|Au<|Ae<|Ab rfl<|Ac (FV.idx1 (cs:=[.string ⟨#[97]⟩,.string ⟨#[98]⟩,.string ⟨#[99]⟩,.string ⟨#[100]⟩]) (k:=2) (m:=1) (len:=4) (by kernel_rfl) (by kernel_rfl) rfl rfl rfl (by omega) rfl)<|Af rfl<|Af rfl<|Aa<|dt 12 tb37_5 (fun b0 j0=>?_)
 refine Ai 0 1 b0 rfl j0 (fun _=>Br 3 rfl) rfl<|AV 1 3 28672 b0 rfl j0 (AJ rfl ((j1.memA (.tl .hd)) 3 _ rfl)) rfl<|Ai 2 7 b0 rfl j0 (fun _=>Ah rfl) rfl<|Ai 3 15 b0 rfl j0 (fun _=>Ah rfl) rfl<|Ai 4 31 b0 rfl j0 (fun _=>FV.add (i:=2) (j:=1) (r:=3) rfl rfl (by decide)) rfl<|Ai 5 63 b0 rfl j0 (fun _=>FV.mul (i:=10) (j:=3) (r:=30) rfl rfl (by decide)) rfl<|Ai 6 127 b0 rfl j0 (fun _=>Bh (vs:=[vI 5,vI 5,vI 2,vI 2]) (u:=.agg #[vI 5,vI 5,vI 2,vI 2]) (e4 rfl rfl rfl rfl) (fun w9=>by kernel_rfl)) rfl<|Ai 7 255 b0 rfl j0 (fun _=>Ah rfl) rfl<|Ai 8 511 b0 rfl j0 (fun _=>FV.idx1 (cs:=[vI 5,vI 5,vI 2,vI 2]) (k:=2) (m:=1) (len:=4) (by kernel_rfl) (by kernel_rfl) rfl rfl rfl (by omega) rfl) rfl<|RD.nu 9 1023 b0 rfl .plain rfl (AF (α:=Int) (xs:=([(2:Int)]:List Int)) (vs:=[vI 2]) (ds' :=[vI 2]) rfl j1 el32 rfl (e1 rfl) (by kernel_rfl) rfl) (fun R3 s0 y0 E1=>?_)
 have c2:=Av (cs:=[vI 2]) (xs:=(([(2:Int)]:List Int):List Int)) y0 L (Ax (cs:=[vI 2]) (ds:=[]) rfl (AC _ _))
 refine Ai 10 2047 b0 rfl j0 (fun _=>Bh (vs:=[.string ⟨#[99]⟩,vI 30,(vS s0 1)]) (u:=.agg #[.string ⟨#[99]⟩,vI 30,vN,vN,(vS s0 1),.bool false]) (e3 rfl rfl rfl) (fun w9=>by kernel_rfl)) rfl ?_
 have G3:=Bt (α:=Int) y0 L
 have P2:=AU (α:=Int) y0 .hd c2 hL
 have G0:=Bk y0 .hd
 have F1:=Bl y0 .hd
 have Q2:=Bm (α:=Int) (v:=(vS s0 1)) (xs:=([(2:Int)]:List Int)) G0 L P2
 have H3:=Bt (α:=Int) G0 L
 refine RD.nu 11 4095 b0 rfl .plain rfl (AF (α:=TUnit) (xs:=([(⟨⟨#[99]⟩,(30:Int),([]:List Int),([]:List Int),([(2:Int)]:List Int),false⟩:TUnit)]:List TUnit)) (vs:=[.agg #[.string ⟨#[99]⟩,vI 30,vN,vN,(vS s0 1),.bool false]]) (ds' :=[.string ⟨#[99]⟩,vI 30,vN,vN,(vS s0 1),.bool false]) rfl G0 el36 rfl (e1 rfl) (by kernel_rfl) rfl) (fun V3 g3 C0 k1=>?_)
 have s1:=Bt (α:=Int) C0 L
 have z2:=Aw Q2 k1
 have d2:=Av (cs:=[.string ⟨#[99]⟩,vI 30,vN,vN,(vS s0 1),.bool false]) (xs:=(([(⟨⟨#[99]⟩,(30:Int),([]:List Int),([]:List Int),([(2:Int)]:List Int),false⟩:TUnit)]:List TUnit):List TUnit)) C0 L (Ax (cs:=[.string ⟨#[99]⟩,vI 30,vN,vN,(vS s0 1),.bool false]) (ds:=[]) (mk_TUnit ⟨#[99]⟩ (30:Int) ([]:List Int) s1 ([]:List Int) s1 ([(2:Int)]:List Int) z2 false) (AC _ _))
 obtain ⟨y4,Z2,h⟩:=bi h
 have I2:=Tt Z1 (Tt b2 (Tt E1 (Tt F1 k1)))
 have A2:=Ap y2 I2
 refine RD.one (i:=12) (rk b0) (BD (m' :=8191) (sk b0) rfl rfl .plain rfl (Bc (α:=TUnit) (ys:=([(⟨⟨#[99]⟩,(30:Int),([]:List Int),([]:List Int),([(2:Int)]:List Int),false⟩:TUnit)]:List TUnit)) Z2 C0 (fun _ _=>(.tl .hd)) el36 rfl rfl A2 (Src.row (α:=TUnit) C0 .hd d2)) (fun V0 W3 ⟨t3,H0,x3,g2⟩=>?_))
 refine Ai 13 16383 b0 rfl j0 (fun _=>Br 3 rfl) rfl<|RD.nw 14 32767 b0 rfl rfl .plain (BH (j:=3) (old:=[vI 0,vI 0,vI 1,X0]) (news:=[V0]) (new' :=[vI 0,vI 0,vI 1,V0]) H0 (.tl (.tl .hd)) rfl rfl rfl (St.c1 (α:=TUnit) H0 (.tl .hd)) rfl rfl (o1 (St.o1 (α:=TUnit) H0 (.tl .hd))) rfl) (fun X3 z1 G1=>?_)
 refine AX (dk b0)<|Aq<|Al<|Ac (FV.add (i:=2) (j:=1) (r:=3) rfl rfl (by decide))<|Ab rfl<|Aa<|MX.again1 ?_
 obtain ⟨Y0,H1⟩:=Ay z1 (.one (.tl .hd) (.one (.tl .hd) (.one (.tl .hd) .done)))
 refine Ae<|Ac (Bg (i:=3) (j:=4) rfl rfl)<|Aa<|Aj<|Bq rfl<|Am<|Aj<|Au<|Ae<|Ab rfl<|Ac (FV.idx1 (cs:=[.string ⟨#[97]⟩,.string ⟨#[98]⟩,.string ⟨#[99]⟩,.string ⟨#[100]⟩]) (k:=3) (m:=1) (len:=4) (by kernel_rfl) (by kernel_rfl) rfl rfl rfl (by omega) rfl)<|Af rfl<|Af rfl<|Aa<|dt 12 tb37_5 (fun c0 k0=>?_)
 refine Ai 0 1 c0 rfl k0 (fun _=>Br 3 rfl) rfl<|AV 1 3 28672 c0 rfl k0 (AJ rfl ((Y0.memA (.tl .hd)) 3 _ rfl)) rfl<|Ai 2 7 c0 rfl k0 (fun _=>Ah rfl) rfl<|Ai 3 15 c0 rfl k0 (fun _=>Ah rfl) rfl<|Ai 4 31 c0 rfl k0 (fun _=>FV.add (i:=3) (j:=1) (r:=4) rfl rfl (by decide)) rfl<|Ai 5 63 c0 rfl k0 (fun _=>FV.mul (i:=10) (j:=4) (r:=40) rfl rfl (by decide)) rfl<|Ai 6 127 c0 rfl k0 (fun _=>Bh (vs:=[vI 5,vI 5,vI 2,vI 2]) (u:=.agg #[vI 5,vI 5,vI 2,vI 2]) (e4 rfl rfl rfl rfl) (fun w9=>by kernel_rfl)) rfl<|Ai 7 255 c0 rfl k0 (fun _=>Ah rfl) rfl<|Ai 8 511 c0 rfl k0 (fun _=>FV.idx1 (cs:=[vI 5,vI 5,vI 2,vI 2]) (k:=3) (m:=1) (len:=4) (by kernel_rfl) (by kernel_rfl) rfl rfl rfl (by omega) rfl) rfl<|RD.nu 9 1023 c0 rfl .plain rfl (AF (α:=Int) (xs:=([(2:Int)]:List Int)) (vs:=[vI 2]) (ds' :=[vI 2]) rfl Y0 el32 rfl (e1 rfl) (by kernel_rfl) rfl) (fun Y3 t0 z0 I1=>?_)
 have j2:=Av (cs:=[vI 2]) (xs:=(([(2:Int)]:List Int):List Int)) z0 L (Ax (cs:=[vI 2]) (ds:=[]) rfl (AC _ _))
 refine Ai 10 2047 c0 rfl k0 (fun _=>Bh (vs:=[.string ⟨#[100]⟩,vI 40,(vS t0 1)]) (u:=.agg #[.string ⟨#[100]⟩,vI 40,vN,vN,(vS t0 1),.bool false]) (e3 rfl rfl rfl) (fun w9=>by kernel_rfl)) rfl ?_
 have I3:=Bt (α:=Int) z0 L
 have R2:=AU (α:=Int) z0 .hd j2 hL
 have I0:=Bk z0 .hd
 have J1:=Bl z0 .hd
 have U2:=Bm (α:=Int) (v:=(vS t0 1)) (xs:=([(2:Int)]:List Int)) I0 L R2
 have J3:=Bt (α:=Int) I0 L
 refine RD.nu 11 4095 c0 rfl .plain rfl (AF (α:=TUnit) (xs:=([(⟨⟨#[100]⟩,(40:Int),([]:List Int),([]:List Int),([(2:Int)]:List Int),false⟩:TUnit)]:List TUnit)) (vs:=[.agg #[.string ⟨#[100]⟩,vI 40,vN,vN,(vS t0 1),.bool false]]) (ds' :=[.string ⟨#[100]⟩,vI 40,vN,vN,(vS t0 1),.bool false]) rfl I0 el36 rfl (e1 rfl) (by kernel_rfl) rfl) (fun Z3 k3 D0 p1=>?_)
 have t1:=Bt (α:=Int) D0 L
 have B2:=Aw U2 p1
 have k2:=Av (cs:=[.string ⟨#[100]⟩,vI 40,vN,vN,(vS t0 1),.bool false]) (xs:=(([(⟨⟨#[100]⟩,(40:Int),([]:List Int),([]:List Int),([(2:Int)]:List Int),false⟩:TUnit)]:List TUnit):List TUnit)) D0 L (Ax (cs:=[.string ⟨#[100]⟩,vI 40,vN,vN,(vS t0 1),.bool false]) (ds:=[]) (mk_TUnit ⟨#[100]⟩ (40:Int) ([]:List Int) t1 ([]:List Int) t1 ([(2:Int)]:List Int) B2 false) (AC _ _))
 obtain ⟨z4,b3,h⟩:=bi h
 have J2:=Tt G1 (Tt H1 (Tt I1 (Tt J1 p1)))
 have C2:=Ap g2 J2
 refine RD.one (i:=12) (rk c0) (BD (m' :=8191) (sk c0) rfl rfl .plain rfl (Bc (α:=TUnit) (ys:=([(⟨⟨#[100]⟩,(40:Int),([]:List Int),([]:List Int),([(2:Int)]:List Int),false⟩:TUnit)]:List TUnit)) b3 D0 (fun _ _=>(.tl .hd)) el36 rfl rfl C2 (Src.row (α:=TUnit) D0 .hd k2)) (fun x0 c4 ⟨x1,J0,z3,p2⟩=>?_))
 refine Ai 13 16383 c0 rfl k0 (fun _=>Br 3 rfl) rfl<|RD.nw 14 32767 c0 rfl rfl .plain (BH (j:=3) (old:=[vI 0,vI 0,vI 1,V0]) (news:=[x0]) (new' :=[vI 0,vI 0,vI 1,x0]) J0 (.tl (.tl .hd)) rfl rfl rfl (St.c1 (α:=TUnit) J0 (.tl .hd)) rfl rfl (o1 (St.o1 (α:=TUnit) J0 (.tl .hd))) rfl) (fun d4 B1 K1=>?_)
 refine AX (dk c0)<|Aq<|Al<|Ac (FV.add (i:=3) (j:=1) (r:=4) rfl rfl (by decide))<|Ab rfl<|Aa<|MX.again1 ?_
 obtain ⟨K0,M1⟩:=Ay B1 (.one (.tl .hd) (.one (.tl .hd) (.one (.tl .hd) .done)))
 refine Ae<|Ac (Bg (i:=4) (j:=4) rfl rfl)<|Aa<|Aj<|Bv rfl<|AR rfl<|Ae<|Ac (AE rfl (K0.memA (.tl .hd)))<|Bu [vI 0,vI 0,vI 1,x0] K0 (.tl (.tl .hd)) (o4 rfl rfl rfl (St.o1 (α:=TUnit) K0 .hd)) (fun g4 Z0 P1=>?_)
 refine Aa<|Ao rfl<|AB (u:=.agg #[vI 0,vI 0,vI 1,x0]) hb0 Tryz.func37 rfl (.cons (.many (cs:=[vI 0,vI 0,vI 1,x0]) (by kernel_rfl) rfl (Z0.memA (.tl (.tl .hd)))) .nil) rfl ?_
 obtain ⟨b1,Q1⟩:=Ay Z0 (.one .hd .done)
 cases h
 have K2:=Tt K1 (Tt M1 (Tt P1 Q1))
 have D2:=Ap p2 K2
 exact ⟨b1.ag,fun w9 hw9=>⟨x0,x1,rfl,b1.agree hw9,Cells.keep0 D2 hw9⟩⟩
def tb9_4:List (Nat × Nat × Nat):=[(0,1048576,0),(1,2097152,1048576),(0,4194304,2),(6,8388608,4194304),(8,16777216,8388608),(8,33554432,8388608),(58,67108864,52428800),(64,134217728,67108864),(128,268435456,134217728),(384,536870912,402653184),(128,1073741824,134217730),(1664,2147483648,1207959552),(2176,4294967296,2281701376),(2176,8589934592,2281701376),(14976,17179869184,13555990528),(16512,34359738368,17314086912),(49152,68719476736,34359738368),(65536,137438953472,68719476736),(196608,274877906944,206158430208),(65536,549755813888,68719476738),(65536,1099511627776,68719476740),(1900544,2199023255552,1717986918400),(2162688,4398046511104,2267742732288),(2162688,8796093022208,2267742732288),(15007744,17592186044416,13537736916992),(16842752,35184372088832,17660905521152),(50331648,70368744177664,35184372088832),(67108864,140737488355328,70368744177664),(67108864,281474976710656,70368744177666),(67108864,562949953421312,70368744177668),(1006632960,1125899906842624,914793674309632),(1140850688,2251799813685248,1196268651020288),(1140850688,4503599627370496,1196268651020288),(7717519360,9007199254740992,6966505673588736),(8657043456,18014398509481984,9077567998918656),(25769803776,36028797018963968,18014398509481984),(34359738368,72057594037927936,36028797018963968),(34359738368,144115188075855872,36028797018963970),(34359738368,288230376151711744,36028797018963972),(515396075520,576460752303423488,468374361246531584),(584115552256,1152921504606846976,612489549322387456),(584115552256,2305843009213693952,612489549322387456),(3951369912320,4611686018427387904,3566850904877432832),(4432406249472,9223372036854775808,4647714815446351872),(13194139533312,18446744073709551616,9223372036854775808),(17592186044416,36893488147419103232,18446744073709551616),(17592186044416,73786976294838206464,18446744073709551618),(17592186044416,147573952589676412928,18446744073709551620),(263882790666240,295147905179352825856,239807672958224171008),(299067162755072,590295810358705651712,313594649253062377472),(299067162755072,1180591620717411303424,313594649253062377472),(2023101395107840,2361183241434822606848,1826227663297245609984),(2269391999729664,4722366482869645213696,2379629985508532158464),(6755399441055744,9444732965739290427392,4722366482869645213696),(9007199254740992,18889465931478580854784,9444732965739290427408),(27021597764222976,37778931862957161709568,28334198897217871282176),(45035996273704960,75557863725914323419136,47223664828696452136960),(81064793292668928,151115727451828646838272,75557863725914323419136),(144115188075855872,302231454903657293676544,151115727451828646838272),(432345564227567616,604462909807314587353088,453347182355485940514816),(144115188075855872,1208925819614629174706176,151115727451828646838274),(1873497444986126336,2417851639229258349412352,1360041547066457821544448),(2449958197289549824,4835703278458516698824704,2568967366681086996250624),(2449958197289549824,9671406556917033397649408,2568967366681086996250624),(16861477004875137024,19342813113834066795298816,15262688472634693330665472),(18590859261785407488,38685626227668133590597632,19493928841285895442137088),(55340232221128654848,77371252455336267181195264,38685626227668133590597632),(73786976294838206464,154742504910672534362390528,77371252455336267181195328),(221360928884514619392,309485009821345068724781056,232113757366008801543585792),(368934881474191032320,618970019642690137449562112,386856262276681335905976320),(1180591620717411303423,1,618970019642690137449562112)]
theorem el33:ElT Tryz.prog 33 3 (Rep.size Int) 8 (vI 0) [vI 0]:=⟨Tryz.underlying33,by kernel_rfl,rfl,rfl,rfl,rfl⟩
theorem body15:bodyB Tryz.prog 15 = true:=by kernel_rfl
theorem body17:bodyB Tryz.prog 17 = true:=by kernel_rfl
theorem body19:bodyB Tryz.prog 19 = true:=by kernel_rfl
theorem body22:bodyB Tryz.prog 22 = true:=by kernel_rfl
theorem body23:bodyB Tryz.prog 23 = true:=by kernel_rfl
theorem body24:bodyB Tryz.prog 24 = true:=by kernel_rfl
theorem body26:bodyB Tryz.prog 26 = true:=by kernel_rfl
theorem body29:bodyB Tryz.prog 29 = true:=by kernel_rfl
theorem body36:bodyB Tryz.prog 36 = true:=by kernel_rfl
theorem body37:bodyB Tryz.prog 37 = true:=by kernel_rfl
theorem body57:bodyB Tryz.prog 57 = true:=by kernel_rfl
theorem body58:bodyB Tryz.prog 58 = true:=by kernel_rfl
theorem body68:bodyB Tryz.prog 68 = true:=by kernel_rfl
def wardmotelaw23_works_p (n:Nat):Option Bool:=
  (wardmotelaw23_four_p n).bind fun y1=>(split_Keeps_p n y1 ([(0:Int),(0:Int),(0:Int),(1:Int)]:List Int) (2:Int) (0:Int) (3:Int)).bind fun y0=>(split_Parents_p n y1 (1:Int)).bind fun z0=>(split_Parents_p n y1 (0:Int)).bind fun k0=>(wardmotelaw23_is_1_p n k0.1 k0.2 ([(2:Int),(5:Int)]:List Int)).bind fun A0=>(if A0 = true then (split_People_p n y1 (0:Int)).bind fun p0=>(wardmotelaw23_is_1_p n p0.1 p0.2 ([(70:Int),(30:Int)]:List Int)).bind fun q0=>(if q0 = true then (split_Pieces_p n y1 ([(0:Int),(0:Int),(0:Int),(1:Int)]:List Int) (2:Int) (0:Int)).bind fun b0=>(wardmotelaw23_is_1_p n b0.1 b0.2 ([(2:Int),(1:Int)]:List Int)).bind fun s0=>(if s0 = true then (split_Splits_p n y1 ([(0:Int),(0:Int),(0:Int),(1:Int)]:List Int) (2:Int) (0:Int)).bind fun c0=>(wardmotelaw23_count_1_p n c0.1 c0.2 (1:Int) (3:Int)).bind fun t0=>(if t0 = true then (split_Keeps_p n y1 ([(0:Int),(0:Int),(0:Int),(1:Int)]:List Int) (2:Int) (0:Int) (2:Int)).bind fun d0=>(wardmotelaw23_truth_1_p n d0.1 d0.2 false).bind fun u0=>(if u0 = true then (split_Keeps_p n y1 ([(0:Int),(0:Int),(0:Int),(1:Int)]:List Int) (2:Int) (0:Int) (5:Int)).bind fun g0=>(wardmotelaw23_truth_1_p n g0.1 g0.2 true).bind fun v0=>(if v0 = true then (if y0.2 = 4 then (split_Forced_p n y1 (0:Int) (50:Int)).bind fun j0=>(wardmotelaw23_is_1_p n j0.1 j0.2 ([(2:Int)]:List Int)).bind fun x0=>(if x0 = true then some (decide (z0.2 = 2)) else some false) else some false) else some false) else some false) else some false) else some false) else some false) else some false)
theorem wardmotelaw23_works_c (n:Nat) (L:List Nat) (w:World) (hL:∀ b ∈ L,b < w.heap.size)  {r:Bool} (h:wardmotelaw23_works_p n = some r) :
    Calls Tryz.prog 9 #[] w (Gives w fun _ u=>u = .bool r):=by
 unfold wardmotelaw23_works_p at h
 have hS0:=AD w
 refine AI Tryz.func9 rfl rfl rfl (fun _ cs0 hb0=>?_)
 refine Ae<|Af rfl<|Aa<|Ae ?_
 obtain ⟨y1,hy1,h⟩:=bi h
 refine AQ (fst:=[]) (cap:=[]) .plain body37 rfl evs_nil (fun w9 hw9=>own_gives (b0:=w.heap.size) (wardmotelaw23_four_c n _ w9 (hS0.hL hL hw9)  hy1) hw9 (Nat.le_trans hS0.ag.size hw9.size)) rfl (fun w2 vu3 hag4 ⟨v9,Q2,hu6,s5,g3⟩=>?_)
 subst hu6
 have hS7:=own_push hS0 s5
 have hT8:=own_tr hS0 s5
 have k3:=Av (cs:=Q2) (xs:=(y1.fm:List TUnit)) hS7 L (own_cells g3)
 refine Az .plain rfl (AF (α:=Int) (xs:=([(0:Int),(0:Int),(0:Int),(1:Int)]:List Int)) (vs:=[vI 0,vI 0,vI 0,vI 1]) (ds' :=[vI 0,vI 0,vI 0,vI 1]) rfl hS7 el33 rfl (e4 rfl rfl rfl rfl) (by kernel_rfl) rfl) (fun Y5 E2 C1 R2=>?_)
 have X1:=Av (cs:=[vI 0,vI 0,vI 0,vI 1]) (xs:=(([(0:Int),(0:Int),(0:Int),(1:Int)]:List Int):List Int)) C1 L (Ax (cs:=[vI 0]) (ds:=[vI 0,vI 0,vI 1]) rfl (Ax (cs:=[vI 0]) (ds:=[vI 0,vI 1]) rfl (Ax (cs:=[vI 0]) (ds:=[vI 1]) rfl (Ax (cs:=[vI 1]) (ds:=[]) rfl (AC _ _)))))
 refine Az .plain rfl (Ba [vI 0,vI 0,vI 0,vN] C1) (fun c6 k5 E1 j1=>?_)
 refine Bu [vI y1.fe,vI y1.fc,vI y1.fh,v9] E1 .hd (o4 rfl rfl rfl (St.o1 (α:=TUnit) E1 (.tl (.tl .hd)))) (fun g6 q0 k1=>?_)
 refine Af rfl<|Aa<|Ae<|Ac (AE rfl (q0.memA .hd))<|Ab rfl ?_
 obtain ⟨v1,G4,h⟩:=bi h
 have Q3:=Tt R2 (Tt j1 k1)
 have Y1:=Ap k3 Q3
 have G3:=Ap X1 (Tt j1 k1)
 refine Bp (.tuple #[.bool v1.1,vI v1.2]) body19 rfl (e5 rfl rfl rfl rfl rfl) (fun w9 hw9=>split_Keeps_c n _ w9 (q0.hL0 hL hw9) y1 (AH (St.lend (α:=TUnit) (L:=L) q0 (.tl (.tl .hd)) Y1 hL) hw9) ([(0:Int),(0:Int),(0:Int),(1:Int)]:List Int) (AH (St.lend (α:=Int) (L:=L) q0 (.tl .hd) G3 hL) hw9) (2:Int) (0:Int) (3:Int) G4) rfl<|Ab rfl<|Ac (Ak rfl rfl)<|Ac (Ak rfl rfl)<|Af rfl<|Af rfl<|Aa<|Ae<|Ac (AE rfl (q0.memA .hd)) ?_
 have Z3:=AU (α:=TUnit) q0 (.tl (.tl .hd)) Y1 hL
 have Z0:=Bk q0 (.tl (.tl .hd))
 have X2:=Bl q0 (.tl (.tl .hd))
 have s0:=Bm (α:=TUnit) (v:=v9) (xs:=y1.fm) Z0 L Z3
 obtain ⟨g5,H4,h⟩:=bi h
 refine AQ (fst:=[]) (cap:=[]) .plain body22 rfl (e2 rfl rfl) (fun w9 hw9=>split_Parents_c n _ w9 (Z0.hL hL hw9) y1 (AH s0 hw9) (1:Int) H4) rfl (fun j6 Q5 c3 ⟨D5,hu_,z5⟩=>?_)
 subst hu_
 obtain ⟨F1,Q1⟩:=Z0.agr c3
 refine Ab rfl<|Ac (Ak rfl rfl)<|Ac (Ak rfl rfl)<|Af rfl<|Af rfl<|Aa<|Aj<|dt 71 tb9_4 (fun c0 d0=>?_)
 refine AV 2 4 2361183241434822606840 c0 rfl d0 (AE rfl (F1.memA .hd)) rfl<|RD.nu 0 5 c0 rfl .plain rfl (AF (α:=Int) (xs:=([(2:Int),(5:Int)]:List Int)) (vs:=[vI 2,vI 5]) (ds' :=[vI 2,vI 5]) rfl F1 el32 rfl (e2 rfl rfl) (by kernel_rfl) rfl) (fun V4 A1 K0 R1=>?_)
 have q3:=Av (cs:=[vI 2,vI 5]) (xs:=(([(2:Int),(5:Int)]:List Int):List Int)) K0 L (Ax (cs:=[vI 2]) (ds:=[vI 5]) rfl (Ax (cs:=[vI 5]) (ds:=[]) rfl (AC _ _)))
 have b4:=AU (α:=Int) K0 .hd q3 hL
 have M0:=Bk K0 .hd
 have U1:=Bl K0 .hd
 have p2:=Bm (α:=Int) (v:=(vS A1 2)) (xs:=([(2:Int),(5:Int)]:List Int)) M0 L b4
 refine RD.cl 1 7 c0 rfl .plain body36 rfl (e1 rfl) (fun w9 hw9=>BC (wardmotelaw23_is_c n _ w9 (M0.hL hL hw9) ([(2:Int),(5:Int)]:List Int) (AH p2 hw9)) fun (w8:World) (u8:Value) ⟨b0_,hu_,s_⟩=>(⟨b0_,hu_,s_.from hw9⟩:∃ E0:Nat,u8 = Value.func (.func 68) #[] #[vP E0]∧St V4 w8 [.cells E0 [(vS A1 2)] 32])) rfl (fun k6 R5 x5 ⟨E0,s4,y2⟩=>?_)
 subst s4
 have G1:=mk_push1 M0 y2
 have p1:=mk_tr1 M0 y2
 obtain ⟨C2,I4,h⟩:=bi h
 have d2:=Tt Q1 (Tt R1 (Tt U1 p1))
 have H3:=Aw s0 d2
 refine RD.cl 3 15 c0 rfl .plain body22 rfl (e2 rfl rfl) (fun w9 hw9=>split_Parents_c n _ w9 (G1.hL hL hw9) y1 (AH H3 hw9) (0:Int) I4) rfl (fun p6 U5 d3 ⟨E5,hu_,c4⟩=>?_)
 subst hu_
 obtain ⟨u0,q1⟩:=G1.agr d3
 refine Ai 4 31 c0 rfl d0 (fun _=>Ak rfl rfl) rfl<|Ai 5 63 c0 rfl d0 (fun _=>Ak rfl rfl) rfl ?_
 obtain ⟨j5,J4,h⟩:=bi h
 have I3:=Aw p2 (Tt p1 q1)
 refine RD.callq (i:=6) (m' :=127) (W:=2361183241434822606720) (tk c0) rfl d0 (v:=.bool j5) (fst:=[]) (cap:=[vP E0]) .plain body68 rfl (e2 rfl rfl) (fun w9 hw9=>wardmotelaw23_is_1_c n _ w9 (u0.hL0 hL hw9) C2.1 (u0.kd c4 hw9) C2.2 ([(2:Int),(5:Int)]:List Int) (u0.kd I3 hw9) (fun j9 v9 h9=>hw9.cell0 ((u0.memA .hd) j9 v9 h9)) J4) rfl<|Ai 7 255 c0 rfl d0 (fun _=>Ah rfl) rfl<|RD.ifb (s:=27) rfl h (fun P2 h=>?_) (fun P2 h=>?_)
 refine RD.val (i:=10) (m' :=1279) (W:=2361183241434822604800) (tk c0) rfl d0 (.yes rfl rfl) (AE rfl (u0.memA (.tl .hd))) rfl<|RD.nu 8 1535 c0 rfl (.yes rfl rfl) rfl (AF (α:=Int) (xs:=([(70:Int),(30:Int)]:List Int)) (vs:=[vI 70,vI 30]) (ds' :=[vI 70,vI 30]) rfl u0 el32 rfl (e2 rfl rfl) (by kernel_rfl) rfl) (fun W4 B1 P0 V1=>?_)
 have s3:=Av (cs:=[vI 70,vI 30]) (xs:=(([(70:Int),(30:Int)]:List Int):List Int)) P0 L (Ax (cs:=[vI 70]) (ds:=[vI 30]) rfl (Ax (cs:=[vI 30]) (ds:=[]) rfl (AC _ _)))
 have d4:=AU (α:=Int) P0 .hd s3 hL
 have Q0:=Bk P0 .hd
 have W1:=Bl P0 .hd
 have q2:=Bm (α:=Int) (v:=(vS B1 2)) (xs:=([(70:Int),(30:Int)]:List Int)) Q0 L d4
 refine RD.cl 9 2047 c0 rfl (.yes rfl rfl) body36 rfl (e1 rfl) (fun w9 hw9=>BC (wardmotelaw23_is_c n _ w9 (Q0.hL hL hw9) ([(70:Int),(30:Int)]:List Int) (AH q2 hw9)) fun (w8:World) (u8:Value) ⟨b0_,hu_,s_⟩=>(⟨b0_,hu_,s_.from hw9⟩:∃ F0:Nat,u8 = Value.func (.func 68) #[] #[vP F0]∧St W4 w8 [.cells F0 [(vS B1 2)] 32])) rfl (fun q6 V5 y5 ⟨F0,t4,z2⟩=>?_)
 subst t4
 have H1:=mk_push1 Q0 z2
 have s1:=mk_tr1 Q0 z2
 obtain ⟨D2,K4,h⟩:=bi h
 have g2:=Tt d2 (Tt q1 (Tt V1 (Tt W1 s1)))
 have J3:=Aw s0 g2
 refine RD.cl 11 4095 c0 rfl (.yes rfl rfl) body23 rfl (e2 rfl rfl) (fun w9 hw9=>split_People_c n _ w9 (H1.hL hL hw9) y1 (AH J3 hw9) (0:Int) K4) rfl (fun W5 F5 Y2 ⟨A5,hu_,R3⟩=>?_)
 subst hu_
 obtain ⟨t0,b1⟩:=H1.agr Y2
 refine Bb 12 8191 c0 rfl d0 (.yes rfl rfl) (fun _=>Ak rfl rfl) rfl<|Bb 13 16383 c0 rfl d0 (.yes rfl rfl) (fun _=>Ak rfl rfl) rfl ?_
 obtain ⟨X4,u4,h⟩:=bi h
 have t3:=Aw q2 (Tt s1 b1)
 refine RD.callq (i:=14) (m' :=32767) (W:=2361183241434822574080) (tk c0) rfl d0 (v:=.bool X4) (fst:=[]) (cap:=[vP F0]) (.yes rfl rfl) body68 rfl (e2 rfl rfl) (fun w9 hw9=>wardmotelaw23_is_1_c n _ w9 (t0.hL0 hL hw9) D2.1 (t0.kd R3 hw9) D2.2 ([(70:Int),(30:Int)]:List Int) (t0.kd t3 hw9) (fun j9 v9 h9=>hw9.cell0 ((t0.memA .hd) j9 v9 h9)) u4) rfl<|Ai 15 65535 c0 rfl d0 (fun _=>Bz rfl rfl) rfl<|Ai 16 131071 c0 rfl d0 (fun _=>Ah rfl) rfl<|RD.ifb (s:=36) rfl h (fun F2 h=>?_) (fun F2 h=>?_)
 refine RD.val (i:=19) (m' :=655359) (W:=2361183241434820509696) (tk c0) rfl d0 (.yes rfl rfl) (AE rfl (t0.memA (.tl (.tl .hd)))) rfl<|Bb 20 1703935 c0 rfl d0 (.yes rfl rfl) (fun _=>Ah rfl) rfl<|RD.nu 17 1835007 c0 rfl (.yes rfl rfl) rfl (AF (α:=Int) (xs:=([(2:Int),(1:Int)]:List Int)) (vs:=[vI 2,vI 1]) (ds' :=[vI 2,vI 1]) rfl t0 el32 rfl (e2 rfl rfl) (by kernel_rfl) rfl) (fun M4 x1 G0 I1=>?_)
 have j3:=Av (cs:=[vI 2,vI 1]) (xs:=(([(2:Int),(1:Int)]:List Int):List Int)) G0 L (Ax (cs:=[vI 2]) (ds:=[vI 1]) rfl (Ax (cs:=[vI 1]) (ds:=[]) rfl (AC _ _)))
 have U3:=AU (α:=Int) G0 .hd j3 hL
 have H0:=Bk G0 .hd
 have J1:=Bl G0 .hd
 have j2:=Bm (α:=Int) (v:=(vS x1 2)) (xs:=([(2:Int),(1:Int)]:List Int)) H0 L U3
 refine RD.cl 18 2097151 c0 rfl (.yes rfl rfl) body36 rfl (e1 rfl) (fun w9 hw9=>BC (wardmotelaw23_is_c n _ w9 (H0.hL hL hw9) ([(2:Int),(1:Int)]:List Int) (AH j2 hw9)) fun (w8:World) (u8:Value) ⟨b0_,hu_,s_⟩=>(⟨b0_,hu_,s_.from hw9⟩:∃ y0:Nat,u8 = Value.func (.func 68) #[] #[vP y0]∧St M4 w8 [.cells y0 [(vS x1 2)] 32])) rfl (fun X5 G5 p5 ⟨y0,g4,s2⟩=>?_)
 subst g4
 have X0:=mk_push1 H0 s2
 have c1:=mk_tr1 H0 s2
 have K3:=Tt j1 (Tt k1 (Tt X2 (Tt Q1 (Tt R1 (Tt U1 (Tt p1 (Tt q1 (Tt V1 (Tt W1 (Tt s1 (Tt b1 (Tt I1 (Tt J1 c1)))))))))))))
 have u3:=Ap X1 K3
 have V3:=AU (α:=Int) X0 (.tl (.tl (.tl (.tl .hd)))) u3 hL
 have Y0:=Bk X0 (.tl (.tl (.tl (.tl .hd))))
 have K1:=Bl X0 (.tl (.tl (.tl (.tl .hd))))
 have U0:=Bm (α:=Int) (v:=(vS E2 4)) (xs:=([(0:Int),(0:Int),(0:Int),(1:Int)]:List Int)) Y0 L V3
 obtain ⟨A2,v4,h⟩:=bi h
 have Z1:=Tt g2 (Tt b1 (Tt I1 (Tt J1 (Tt c1 K1))))
 have v3:=Aw s0 Z1
 refine RD.cl 21 4194303 c0 rfl (.yes rfl rfl) body15 rfl (e4 rfl rfl rfl rfl) (fun w9 hw9=>split_Pieces_c n _ w9 (Y0.hL hL hw9) y1 (AH v3 hw9) ([(0:Int),(0:Int),(0:Int),(1:Int)]:List Int) (AH U0 hw9) (2:Int) (0:Int) v4) rfl (fun P4 H5 Z2 ⟨B5,hu_,W3⟩=>?_)
 subst hu_
 obtain ⟨k0,R0⟩:=Y0.agr Z2
 refine Bb 22 8388607 c0 rfl d0 (.yes rfl rfl) (fun _=>Ak rfl rfl) rfl<|Bb 23 16777215 c0 rfl d0 (.yes rfl rfl) (fun _=>Ak rfl rfl) rfl ?_
 obtain ⟨Y4,x4,h⟩:=bi h
 have M3:=Tt c1 (Tt K1 R0)
 have x3:=Aw j2 M3
 refine RD.callq (i:=24) (m' :=33554431) (W:=2361183241434789052416) (tk c0) rfl d0 (v:=.bool Y4) (fst:=[]) (cap:=[vP y0]) (.yes rfl rfl) body68 rfl (e2 rfl rfl) (fun w9 hw9=>wardmotelaw23_is_1_c n _ w9 (k0.hL0 hL hw9) A2.1 (k0.kd W3 hw9) A2.2 ([(2:Int),(1:Int)]:List Int) (k0.kd x3 hw9) (fun j9 v9 h9=>hw9.cell0 ((k0.memA .hd) j9 v9 h9)) x4) rfl<|Ai 25 67108863 c0 rfl d0 (fun _=>Bz rfl rfl) rfl<|Ai 26 134217727 c0 rfl d0 (fun _=>Ah rfl) rfl<|RD.ifb (s:=46) rfl h (fun G2 h=>?_) (fun G2 h=>?_)
 refine RD.val (i:=28) (m' :=402653183) (W:=2361183241433748865024) (tk c0) rfl d0 (.yes rfl rfl) (AE rfl (k0.memA (.tl (.tl (.tl .hd))))) rfl<|Bb 29 939524095 c0 rfl d0 (.yes rfl rfl) (fun _=>Ah rfl) rfl<|RD.cl 27 1073741823 c0 rfl (.yes rfl rfl) body26 rfl (e2 rfl rfl) (fun w9 hw9=>BC (wardmotelaw23_count_c n _ w9 (k0.hL hL hw9) (1:Int) (3:Int)) fun (w8:World) (u8:Value) ⟨b0_,b1_,hu_,s_⟩=>(⟨b0_,b1_,hu_,s_.from hw9⟩:∃ z0 A0:Nat,u8 = Value.func (.func 58) #[] #[vP z0,vP A0]∧St P4 w8 [.cells z0 [vI 1] 3,.cells A0 [vI 3] 3])) rfl (fun Q4 I5 q5 ⟨z0,A0,j4,t2⟩=>?_)
 subst j4
 have g0:=mk_push2 k0 t2
 have d1:=mk_tr2 k0 t2
 obtain ⟨x0,y4,h⟩:=bi h
 have u1:=Tt Z1 (Tt R0 d1)
 have y3:=Aw s0 u1
 have z3:=Aw U0 (Tt R0 d1)
 refine RD.callq (i:=30) (m' :=2147483647) (W:=2361183241432675123200) (tk c0) rfl d0 (v:=.tuple #[.agg #[vI x0.1.fx,vI x0.1.fv],vI x0.2]) (fst:=[]) (cap:=[]) (.yes rfl rfl) body17 rfl (e4 rfl rfl rfl rfl) (fun w9 hw9=>split_Splits_c n _ w9 (g0.hL0 hL hw9) y1 (g0.kd y3 hw9) ([(0:Int),(0:Int),(0:Int),(1:Int)]:List Int) (g0.kd z3 hw9) (2:Int) (0:Int) y4) rfl<|Bb 31 4294967295 c0 rfl d0 (.yes rfl rfl) (fun _=>Ak rfl rfl) rfl<|Bb 32 8589934591 c0 rfl d0 (.yes rfl rfl) (fun _=>Ak rfl rfl) rfl ?_
 obtain ⟨Z4,z4,h⟩:=bi h
 refine RD.callq (i:=33) (m' :=17179869183) (W:=2361183241417642737664) (tk c0) rfl d0 (v:=.bool Z4) (fst:=[]) (cap:=[vP z0,vP A0]) (.yes rfl rfl) body58 rfl (e2 rfl rfl) (fun w9 hw9=>wardmotelaw23_count_1_c n _ w9 (g0.hL0 hL hw9) x0.1 x0.2 (1:Int) (fun j9 v9 h9=>hw9.cell0 ((g0.memA .hd) j9 v9 h9)) (3:Int) (fun j9 v9 h9=>hw9.cell0 ((g0.memA (.tl .hd)) j9 v9 h9)) z4) rfl<|Ai 34 34359738367 c0 rfl d0 (fun _=>Bz rfl rfl) rfl<|Ai 35 68719476735 c0 rfl d0 (fun _=>Ah rfl) rfl<|RD.ifb (s:=55) rfl h (fun H2 h=>?_) (fun H2 h=>?_)
 refine RD.val (i:=37) (m' :=206158430207) (W:=2361183240885066792960) (tk c0) rfl d0 (.yes rfl rfl) (AE rfl (g0.memA (.tl (.tl (.tl (.tl (.tl .hd))))))) rfl<|Bb 38 481036337151 c0 rfl d0 (.yes rfl rfl) (fun _=>Ah rfl) rfl<|RD.cl 36 549755813887 c0 rfl (.yes rfl rfl) body24 rfl (e1 rfl) (fun w9 hw9=>BC (wardmotelaw23_truth_c n _ w9 (g0.hL hL hw9) false) fun (w8:World) (u8:Value) ⟨b0_,hu_,s_⟩=>(⟨b0_,hu_,s_.from hw9⟩:∃ B0:Nat,u8 = Value.func (.func 57) #[] #[vP B0]∧St Q4 w8 [.cells B0 [.bool false] 4])) rfl (fun R4 J5 t5 ⟨B0,k4,u2⟩=>?_)
 subst k4
 have j0:=mk_push1 g0 u2
 have g1:=mk_tr1 g0 u2
 obtain ⟨V0,A4,h⟩:=bi h
 have A3:=Aw s0 (Tt u1 g1)
 have b2:=Tt R0 (Tt d1 g1)
 have B3:=Aw U0 b2
 refine RD.callq (i:=39) (m' :=1099511627775) (W:=2361183240335310979072) (tk c0) rfl d0 (v:=.tuple #[.bool V0.1,vI V0.2]) (fst:=[]) (cap:=[]) (.yes rfl rfl) body19 rfl (e5 rfl rfl rfl rfl rfl) (fun w9 hw9=>split_Keeps_c n _ w9 (j0.hL0 hL hw9) y1 (j0.kd A3 hw9) ([(0:Int),(0:Int),(0:Int),(1:Int)]:List Int) (j0.kd B3 hw9) (2:Int) (0:Int) (2:Int) A4) rfl<|Bb 40 2199023255551 c0 rfl d0 (.yes rfl rfl) (fun _=>Ak rfl rfl) rfl<|Bb 41 4398046511103 c0 rfl d0 (.yes rfl rfl) (fun _=>Ak rfl rfl) rfl ?_
 obtain ⟨b5,B4,h⟩:=bi h
 refine RD.callq (i:=42) (m' :=8796093022207) (W:=2361183232638729584640) (tk c0) rfl d0 (v:=.bool b5) (fst:=[]) (cap:=[vP B0]) (.yes rfl rfl) body57 rfl (e2 rfl rfl) (fun w9 hw9=>wardmotelaw23_truth_1_c n _ w9 (j0.hL0 hL hw9) V0.1 V0.2 false (fun j9 v9 h9=>hw9.cell0 ((j0.memA .hd) j9 v9 h9)) B4) rfl<|Ai 43 17592186044415 c0 rfl d0 (fun _=>Bz rfl rfl) rfl<|Ai 44 35184372088831 c0 rfl d0 (fun _=>Ah rfl) rfl<|RD.ifb (s:=64) rfl h (fun I2 h=>?_) (fun I2 h=>?_)
 refine RD.val (i:=46) (m' :=105553116266495) (W:=2361182959959845896192) (tk c0) rfl d0 (.yes rfl rfl) (AE rfl (j0.memA (.tl (.tl (.tl (.tl (.tl (.tl .hd)))))))) rfl<|Bb 47 246290604621823 c0 rfl d0 (.yes rfl rfl) (fun _=>Ah rfl) rfl<|RD.cl 45 281474976710655 c0 rfl (.yes rfl rfl) body24 rfl (e1 rfl) (fun w9 hw9=>BC (wardmotelaw23_truth_c n _ w9 (j0.hL hL hw9) true) fun (w8:World) (u8:Value) ⟨b0_,hu_,s_⟩=>(⟨b0_,hu_,s_.from hw9⟩:∃ C0:Nat,u8 = Value.func (.func 57) #[] #[vP C0]∧St R4 w8 [.cells C0 [.bool true] 4])) rfl (fun Z5 K5 u5 ⟨C0,p4,v2⟩=>?_)
 subst p4
 have p0:=mk_push1 j0 v2
 have M1:=mk_tr1 j0 v2
 obtain ⟨W0,C4,h⟩:=bi h
 have c2:=Tt u1 (Tt g1 M1)
 have C3:=Aw s0 c2
 have D3:=Aw U0 (Tt b2 M1)
 refine RD.callq (i:=48) (m' :=562949953421311) (W:=2361182678484869185536) (tk c0) rfl d0 (v:=.tuple #[.bool W0.1,vI W0.2]) (fst:=[]) (cap:=[]) (.yes rfl rfl) body19 rfl (e5 rfl rfl rfl rfl rfl) (fun w9 hw9=>split_Keeps_c n _ w9 (p0.hL0 hL hw9) y1 (p0.kd C3 hw9) ([(0:Int),(0:Int),(0:Int),(1:Int)]:List Int) (p0.kd D3 hw9) (2:Int) (0:Int) (5:Int) C4) rfl<|Bb 49 1125899906842623 c0 rfl d0 (.yes rfl rfl) (fun _=>Ak rfl rfl) rfl<|Bb 50 2251799813685247 c0 rfl d0 (.yes rfl rfl) (fun _=>Ak rfl rfl) rfl ?_
 obtain ⟨c5,D4,h⟩:=bi h
 refine RD.callq (i:=51) (m' :=4503599627370495) (W:=2361178737835195236352) (tk c0) rfl d0 (v:=.bool c5) (fst:=[]) (cap:=[vP C0]) (.yes rfl rfl) body57 rfl (e2 rfl rfl) (fun w9 hw9=>wardmotelaw23_truth_1_c n _ w9 (p0.hL0 hL hw9) W0.1 W0.2 true (fun j9 v9 h9=>hw9.cell0 ((p0.memA .hd) j9 v9 h9)) D4) rfl<|Ai 52 9007199254740991 c0 rfl d0 (fun _=>Bz rfl rfl) rfl<|Ai 53 18014398509481983 c0 rfl d0 (fun _=>Ah rfl) rfl<|RD.ifb (s:=73) rfl h (fun J2 h=>?_) (fun J2 h=>?_)
 refine Bb 54 36028797018963967 c0 rfl d0 (.yes rfl rfl) (fun _=>Ah rfl) rfl<|Bb 55 72057594037927935 c0 rfl d0 (.yes rfl rfl) (fun _=>FV.eql (i:=v1.2) (j:=4) rfl rfl) rfl<|Ai 56 144115188075855871 c0 rfl d0 (fun _=>Bz rfl rfl) rfl<|Ai 57 288230376151711743 c0 rfl d0 (fun _=>Ah rfl) rfl<|RD.ifd (s:=77) rfl h (fun K2 h=>?_) (fun K2 h=>?_)
 refine RD.val (i:=60) (m' :=1441151880758558719) (W:=2358877398425608912896) (tk c0) rfl d0 (.yes rfl rfl) (AE rfl (p0.memA (.tl (.tl (.tl (.tl (.tl (.tl (.tl .hd))))))))) rfl<|RD.nu 58 1729382256910270463 c0 rfl (.yes rfl rfl) rfl (AF (α:=Int) (xs:=([(2:Int)]:List Int)) (vs:=[vI 2]) (ds' :=[vI 2]) rfl p0 el32 rfl (e1 rfl) (by kernel_rfl) rfl) (fun U4 z1 I0 U2=>?_)
 have p3:=Av (cs:=[vI 2]) (xs:=(([(2:Int)]:List Int):List Int)) I0 L (Ax (cs:=[vI 2]) (ds:=[]) rfl (AC _ _))
 have X3:=AU (α:=Int) I0 .hd p3 hL
 have J0:=Bk I0 .hd
 have V2:=Bl I0 .hd
 have k2:=Bm (α:=Int) (v:=(vS z1 1)) (xs:=([(2:Int)]:List Int)) J0 L X3
 refine RD.cl 59 2305843009213693951 c0 rfl (.yes rfl rfl) body36 rfl (e1 rfl) (fun w9 hw9=>BC (wardmotelaw23_is_c n _ w9 (J0.hL hL hw9) ([(2:Int)]:List Int) (AH k2 hw9)) fun (w8:World) (u8:Value) ⟨b0_,hu_,s_⟩=>(⟨b0_,hu_,s_.from hw9⟩:∃ D0:Nat,u8 = Value.func (.func 68) #[] #[vP D0]∧St U4 w8 [.cells D0 [(vS z1 1)] 32])) rfl (fun b6 M5 v5 ⟨D0,q4,x2⟩=>?_)
 subst q4
 have D1:=mk_push1 J0 x2
 have P1:=mk_tr1 J0 x2
 obtain ⟨B2,E4,h⟩:=bi h
 have P3:=Tt c2 (Tt U2 (Tt V2 P1))
 have E3:=Aw s0 P3
 refine RD.cl 61 4611686018427387903 c0 rfl (.yes rfl rfl) body29 rfl (e3 rfl rfl rfl) (fun w9 hw9=>split_Forced_c n _ w9 (D1.hL hL hw9) y1 (AH E3 hw9) (0:Int) (50:Int) E4) rfl (fun d6 P5 b3 ⟨C5,hu_,Y3⟩=>?_)
 subst hu_
 obtain ⟨v0,W2⟩:=D1.agr b3
 refine Bb 62 9223372036854775807 c0 rfl d0 (.yes rfl rfl) (fun _=>Ak rfl rfl) rfl<|Bb 63 18446744073709551615 c0 rfl d0 (.yes rfl rfl) (fun _=>Ak rfl rfl) rfl ?_
 obtain ⟨d5,F4,h⟩:=bi h
 have F3:=Aw k2 (Tt P1 W2)
 refine RD.callq (i:=64) (m' :=36893488147419103231) (W:=2324289753287403503616) (tk c0) rfl d0 (v:=.bool d5) (fst:=[]) (cap:=[vP D0]) (.yes rfl rfl) body68 rfl (e2 rfl rfl) (fun w9 hw9=>wardmotelaw23_is_1_c n _ w9 (v0.hL0 hL hw9) B2.1 (v0.kd Y3 hw9) B2.2 ([(2:Int)]:List Int) (v0.kd F3 hw9) (fun j9 v9 h9=>hw9.cell0 ((v0.memA .hd) j9 v9 h9)) F4) rfl<|Ai 65 73786976294838206463 c0 rfl d0 (fun _=>Bz rfl rfl) rfl<|Ai 66 147573952589676412927 c0 rfl d0 (fun _=>Ah rfl) rfl<|RD.ifb (s:=86) rfl h (fun M2 h=>?_) (fun M2 h=>?_)
 refine Bb 67 295147905179352825855 c0 rfl d0 (.yes rfl rfl) (fun _=>Ah rfl) rfl<|Bb 68 590295810358705651711 c0 rfl d0 (.yes rfl rfl) (fun _=>FV.eql (i:=g5.2) (j:=2) rfl rfl) rfl<|Ai 69 1180591620717411303423 c0 rfl d0 (fun _=>Bz rfl rfl) rfl<|Ai 70 2361183241434822606847 c0 rfl d0 (fun _=>Bw rfl) rfl<|AX (dk c0)<|Ao rfl<|AL hb0 Tryz.func9 rfl rfl ?_
 cases h
 exact v0.gv
 refine Bo 590295810358705651711 2 [(67,87),(68,88)] (F:=[(86,false)]) (U:=[]) c0 d0 (.cons rfl .nil) .nil ?_
 dsimp only [offS,List.map]
 refine Ai 69 1180591620717411303423 c0 rfl d0 (fun _=>AP rfl rfl) rfl<|Ai 70 2361183241434822606847 c0 rfl d0 (fun _=>Bw rfl) rfl<|AX (dk c0)<|Ao rfl<|AL hb0 Tryz.func9 rfl rfl ?_
 cases h
 exact v0.gv
 refine Bo 36893488147419103231 6 [(58,78),(59,79),(60,80),(61,81),(62,82),(63,83),(64,84)] (F:=[(77,false)]) (U:=[]) c0 d0 (.cons rfl .nil) .nil ?_
 dsimp only [offS,List.map]
 refine Ai 65 73786976294838206463 c0 rfl d0 (fun _=>AP rfl rfl) rfl<|Ai 66 147573952589676412927 c0 rfl d0 (fun _=>Ah rfl) rfl<|Bo 590295810358705651711 2 [(67,87),(68,88)] (F:=[(86,false)]) (U:=[]) c0 d0 (.cons rfl .nil) .nil ?_
 dsimp only [offS,List.map]
 refine Ai 69 1180591620717411303423 c0 rfl d0 (fun _=>AP rfl rfl) rfl<|Ai 70 2361183241434822606847 c0 rfl d0 (fun _=>Bw rfl) rfl<|AX (dk c0)<|Ao rfl<|AL hb0 Tryz.func9 rfl rfl ?_
 cases h
 exact p0.gv
 refine Bo 72057594037927935 15 [(54,74),(55,75)] (F:=[(73,false)]) (U:=[]) c0 d0 (.cons rfl .nil) .nil ?_
 dsimp only [offS,List.map]
 refine Ai 56 144115188075855871 c0 rfl d0 (fun _=>AP rfl rfl) rfl<|Ai 57 288230376151711743 c0 rfl d0 (fun _=>Ah rfl) rfl<|Bo 36893488147419103231 6 [(58,78),(59,79),(60,80),(61,81),(62,82),(63,83),(64,84)] (F:=[(77,false)]) (U:=[]) c0 d0 (.cons rfl .nil) .nil ?_
 dsimp only [offS,List.map]
 refine Ai 65 73786976294838206463 c0 rfl d0 (fun _=>AP rfl rfl) rfl<|Ai 66 147573952589676412927 c0 rfl d0 (fun _=>Ah rfl) rfl<|Bo 590295810358705651711 2 [(67,87),(68,88)] (F:=[(86,false)]) (U:=[]) c0 d0 (.cons rfl .nil) .nil ?_
 dsimp only [offS,List.map]
 refine Ai 69 1180591620717411303423 c0 rfl d0 (fun _=>AP rfl rfl) rfl<|Ai 70 2361183241434822606847 c0 rfl d0 (fun _=>Bw rfl) rfl<|AX (dk c0)<|Ao rfl<|AL hb0 Tryz.func9 rfl rfl ?_
 cases h
 exact p0.gv
 refine Bo 4503599627370495 19 [(45,65),(46,66),(47,67),(48,68),(49,69),(50,70),(51,71)] (F:=[(64,false)]) (U:=[]) c0 d0 (.cons rfl .nil) .nil ?_
 dsimp only [offS,List.map]
 refine Ai 52 9007199254740991 c0 rfl d0 (fun _=>AP rfl rfl) rfl<|Ai 53 18014398509481983 c0 rfl d0 (fun _=>Ah rfl) rfl<|Bo 72057594037927935 15 [(54,74),(55,75)] (F:=[(73,false)]) (U:=[]) c0 d0 (.cons rfl .nil) .nil ?_
 dsimp only [offS,List.map]
 refine Ai 56 144115188075855871 c0 rfl d0 (fun _=>AP rfl rfl) rfl<|Ai 57 288230376151711743 c0 rfl d0 (fun _=>Ah rfl) rfl<|Bo 36893488147419103231 6 [(58,78),(59,79),(60,80),(61,81),(62,82),(63,83),(64,84)] (F:=[(77,false)]) (U:=[]) c0 d0 (.cons rfl .nil) .nil ?_
 dsimp only [offS,List.map]
 refine Ai 65 73786976294838206463 c0 rfl d0 (fun _=>AP rfl rfl) rfl<|Ai 66 147573952589676412927 c0 rfl d0 (fun _=>Ah rfl) rfl<|Bo 590295810358705651711 2 [(67,87),(68,88)] (F:=[(86,false)]) (U:=[]) c0 d0 (.cons rfl .nil) .nil ?_
 dsimp only [offS,List.map]
 refine Ai 69 1180591620717411303423 c0 rfl d0 (fun _=>AP rfl rfl) rfl<|Ai 70 2361183241434822606847 c0 rfl d0 (fun _=>Bw rfl) rfl<|AX (dk c0)<|Ao rfl<|AL hb0 Tryz.func9 rfl rfl ?_
 cases h
 exact j0.gv
 refine Bo 8796093022207 28 [(36,56),(37,57),(38,58),(39,59),(40,60),(41,61),(42,62)] (F:=[(55,false)]) (U:=[]) c0 d0 (.cons rfl .nil) .nil ?_
 dsimp only [offS,List.map]
 refine Ai 43 17592186044415 c0 rfl d0 (fun _=>AP rfl rfl) rfl<|Ai 44 35184372088831 c0 rfl d0 (fun _=>Ah rfl) rfl<|Bo 4503599627370495 19 [(45,65),(46,66),(47,67),(48,68),(49,69),(50,70),(51,71)] (F:=[(64,false)]) (U:=[]) c0 d0 (.cons rfl .nil) .nil ?_
 dsimp only [offS,List.map]
 refine Ai 52 9007199254740991 c0 rfl d0 (fun _=>AP rfl rfl) rfl<|Ai 53 18014398509481983 c0 rfl d0 (fun _=>Ah rfl) rfl<|Bo 72057594037927935 15 [(54,74),(55,75)] (F:=[(73,false)]) (U:=[]) c0 d0 (.cons rfl .nil) .nil ?_
 dsimp only [offS,List.map]
 refine Ai 56 144115188075855871 c0 rfl d0 (fun _=>AP rfl rfl) rfl<|Ai 57 288230376151711743 c0 rfl d0 (fun _=>Ah rfl) rfl<|Bo 36893488147419103231 6 [(58,78),(59,79),(60,80),(61,81),(62,82),(63,83),(64,84)] (F:=[(77,false)]) (U:=[]) c0 d0 (.cons rfl .nil) .nil ?_
 dsimp only [offS,List.map]
 refine Ai 65 73786976294838206463 c0 rfl d0 (fun _=>AP rfl rfl) rfl<|Ai 66 147573952589676412927 c0 rfl d0 (fun _=>Ah rfl) rfl<|Bo 590295810358705651711 2 [(67,87),(68,88)] (F:=[(86,false)]) (U:=[]) c0 d0 (.cons rfl .nil) .nil ?_
 dsimp only [offS,List.map]
 refine Ai 69 1180591620717411303423 c0 rfl d0 (fun _=>AP rfl rfl) rfl<|Ai 70 2361183241434822606847 c0 rfl d0 (fun _=>Bw rfl) rfl<|AX (dk c0)<|Ao rfl<|AL hb0 Tryz.func9 rfl rfl ?_
 cases h
 exact g0.gv
 refine Bo 17179869183 37 [(27,47),(28,48),(29,49),(30,50),(31,51),(32,52),(33,53)] (F:=[(46,false)]) (U:=[]) c0 d0 (.cons rfl .nil) .nil ?_
 dsimp only [offS,List.map]
 refine Ai 34 34359738367 c0 rfl d0 (fun _=>AP rfl rfl) rfl<|Ai 35 68719476735 c0 rfl d0 (fun _=>Ah rfl) rfl<|Bo 8796093022207 28 [(36,56),(37,57),(38,58),(39,59),(40,60),(41,61),(42,62)] (F:=[(55,false)]) (U:=[]) c0 d0 (.cons rfl .nil) .nil ?_
 dsimp only [offS,List.map]
 refine Ai 43 17592186044415 c0 rfl d0 (fun _=>AP rfl rfl) rfl<|Ai 44 35184372088831 c0 rfl d0 (fun _=>Ah rfl) rfl<|Bo 4503599627370495 19 [(45,65),(46,66),(47,67),(48,68),(49,69),(50,70),(51,71)] (F:=[(64,false)]) (U:=[]) c0 d0 (.cons rfl .nil) .nil ?_
 dsimp only [offS,List.map]
 refine Ai 52 9007199254740991 c0 rfl d0 (fun _=>AP rfl rfl) rfl<|Ai 53 18014398509481983 c0 rfl d0 (fun _=>Ah rfl) rfl<|Bo 72057594037927935 15 [(54,74),(55,75)] (F:=[(73,false)]) (U:=[]) c0 d0 (.cons rfl .nil) .nil ?_
 dsimp only [offS,List.map]
 refine Ai 56 144115188075855871 c0 rfl d0 (fun _=>AP rfl rfl) rfl<|Ai 57 288230376151711743 c0 rfl d0 (fun _=>Ah rfl) rfl<|Bo 36893488147419103231 6 [(58,78),(59,79),(60,80),(61,81),(62,82),(63,83),(64,84)] (F:=[(77,false)]) (U:=[]) c0 d0 (.cons rfl .nil) .nil ?_
 dsimp only [offS,List.map]
 refine Ai 65 73786976294838206463 c0 rfl d0 (fun _=>AP rfl rfl) rfl<|Ai 66 147573952589676412927 c0 rfl d0 (fun _=>Ah rfl) rfl<|Bo 590295810358705651711 2 [(67,87),(68,88)] (F:=[(86,false)]) (U:=[]) c0 d0 (.cons rfl .nil) .nil ?_
 dsimp only [offS,List.map]
 refine Ai 69 1180591620717411303423 c0 rfl d0 (fun _=>AP rfl rfl) rfl<|Ai 70 2361183241434822606847 c0 rfl d0 (fun _=>Bw rfl) rfl<|AX (dk c0)<|Ao rfl<|AL hb0 Tryz.func9 rfl rfl ?_
 cases h
 exact k0.gv
 refine Bo 33554431 46 [(17,37),(18,38),(19,39),(20,40),(21,41),(22,42),(23,43),(24,44)] (F:=[(36,false)]) (U:=[]) c0 d0 (.cons rfl .nil) .nil ?_
 dsimp only [offS,List.map]
 refine Ai 25 67108863 c0 rfl d0 (fun _=>AP rfl rfl) rfl<|Ai 26 134217727 c0 rfl d0 (fun _=>Ah rfl) rfl<|Bo 17179869183 37 [(27,47),(28,48),(29,49),(30,50),(31,51),(32,52),(33,53)] (F:=[(46,false)]) (U:=[]) c0 d0 (.cons rfl .nil) .nil ?_
 dsimp only [offS,List.map]
 refine Ai 34 34359738367 c0 rfl d0 (fun _=>AP rfl rfl) rfl<|Ai 35 68719476735 c0 rfl d0 (fun _=>Ah rfl) rfl<|Bo 8796093022207 28 [(36,56),(37,57),(38,58),(39,59),(40,60),(41,61),(42,62)] (F:=[(55,false)]) (U:=[]) c0 d0 (.cons rfl .nil) .nil ?_
 dsimp only [offS,List.map]
 refine Ai 43 17592186044415 c0 rfl d0 (fun _=>AP rfl rfl) rfl<|Ai 44 35184372088831 c0 rfl d0 (fun _=>Ah rfl) rfl<|Bo 4503599627370495 19 [(45,65),(46,66),(47,67),(48,68),(49,69),(50,70),(51,71)] (F:=[(64,false)]) (U:=[]) c0 d0 (.cons rfl .nil) .nil ?_
 dsimp only [offS,List.map]
 refine Ai 52 9007199254740991 c0 rfl d0 (fun _=>AP rfl rfl) rfl<|Ai 53 18014398509481983 c0 rfl d0 (fun _=>Ah rfl) rfl<|Bo 72057594037927935 15 [(54,74),(55,75)] (F:=[(73,false)]) (U:=[]) c0 d0 (.cons rfl .nil) .nil ?_
 dsimp only [offS,List.map]
 refine Ai 56 144115188075855871 c0 rfl d0 (fun _=>AP rfl rfl) rfl<|Ai 57 288230376151711743 c0 rfl d0 (fun _=>Ah rfl) rfl<|Bo 36893488147419103231 6 [(58,78),(59,79),(60,80),(61,81),(62,82),(63,83),(64,84)] (F:=[(77,false)]) (U:=[]) c0 d0 (.cons rfl .nil) .nil ?_
 dsimp only [offS,List.map]
 refine Ai 65 73786976294838206463 c0 rfl d0 (fun _=>AP rfl rfl) rfl<|Ai 66 147573952589676412927 c0 rfl d0 (fun _=>Ah rfl) rfl<|Bo 590295810358705651711 2 [(67,87),(68,88)] (F:=[(86,false)]) (U:=[]) c0 d0 (.cons rfl .nil) .nil ?_
 dsimp only [offS,List.map]
 refine Ai 69 1180591620717411303423 c0 rfl d0 (fun _=>AP rfl rfl) rfl<|Ai 70 2361183241434822606847 c0 rfl d0 (fun _=>Bw rfl) rfl<|AX (dk c0)<|Ao rfl<|AL hb0 Tryz.func9 rfl rfl ?_
 cases h
 exact t0.gv
 refine Bo 32767 56 [(8,28),(9,29),(10,30),(11,31),(12,32),(13,33),(14,34)] (F:=[(27,false)]) (U:=[]) c0 d0 (.cons rfl .nil) .nil ?_
 dsimp only [offS,List.map]
 refine Ai 15 65535 c0 rfl d0 (fun _=>AP rfl rfl) rfl<|Ai 16 131071 c0 rfl d0 (fun _=>Ah rfl) rfl<|Bo 33554431 46 [(17,37),(18,38),(19,39),(20,40),(21,41),(22,42),(23,43),(24,44)] (F:=[(36,false)]) (U:=[]) c0 d0 (.cons rfl .nil) .nil ?_
 dsimp only [offS,List.map]
 refine Ai 25 67108863 c0 rfl d0 (fun _=>AP rfl rfl) rfl<|Ai 26 134217727 c0 rfl d0 (fun _=>Ah rfl) rfl<|Bo 17179869183 37 [(27,47),(28,48),(29,49),(30,50),(31,51),(32,52),(33,53)] (F:=[(46,false)]) (U:=[]) c0 d0 (.cons rfl .nil) .nil ?_
 dsimp only [offS,List.map]
 refine Ai 34 34359738367 c0 rfl d0 (fun _=>AP rfl rfl) rfl<|Ai 35 68719476735 c0 rfl d0 (fun _=>Ah rfl) rfl<|Bo 8796093022207 28 [(36,56),(37,57),(38,58),(39,59),(40,60),(41,61),(42,62)] (F:=[(55,false)]) (U:=[]) c0 d0 (.cons rfl .nil) .nil ?_
 dsimp only [offS,List.map]
 refine Ai 43 17592186044415 c0 rfl d0 (fun _=>AP rfl rfl) rfl<|Ai 44 35184372088831 c0 rfl d0 (fun _=>Ah rfl) rfl<|Bo 4503599627370495 19 [(45,65),(46,66),(47,67),(48,68),(49,69),(50,70),(51,71)] (F:=[(64,false)]) (U:=[]) c0 d0 (.cons rfl .nil) .nil ?_
 dsimp only [offS,List.map]
 refine Ai 52 9007199254740991 c0 rfl d0 (fun _=>AP rfl rfl) rfl<|Ai 53 18014398509481983 c0 rfl d0 (fun _=>Ah rfl) rfl<|Bo 72057594037927935 15 [(54,74),(55,75)] (F:=[(73,false)]) (U:=[]) c0 d0 (.cons rfl .nil) .nil ?_
 dsimp only [offS,List.map]
 refine Ai 56 144115188075855871 c0 rfl d0 (fun _=>AP rfl rfl) rfl<|Ai 57 288230376151711743 c0 rfl d0 (fun _=>Ah rfl) rfl<|Bo 36893488147419103231 6 [(58,78),(59,79),(60,80),(61,81),(62,82),(63,83),(64,84)] (F:=[(77,false)]) (U:=[]) c0 d0 (.cons rfl .nil) .nil ?_
 dsimp only [offS,List.map]
 refine Ai 65 73786976294838206463 c0 rfl d0 (fun _=>AP rfl rfl) rfl<|Ai 66 147573952589676412927 c0 rfl d0 (fun _=>Ah rfl) rfl<|Bo 590295810358705651711 2 [(67,87),(68,88)] (F:=[(86,false)]) (U:=[]) c0 d0 (.cons rfl .nil) .nil ?_
 dsimp only [offS,List.map]
 refine Ai 69 1180591620717411303423 c0 rfl d0 (fun _=>AP rfl rfl) rfl<|Ai 70 2361183241434822606847 c0 rfl d0 (fun _=>Bw rfl) rfl<|AX (dk c0)<|Ao rfl<|AL hb0 Tryz.func9 rfl rfl ?_
 cases h
 exact u0.gv
structure TDraft where
  fN:UInt8
  fw:List UInt8
  fMore:List (UInt8 × UInt8)
  fE:List UInt8
  fK:UInt8
  deriving DecidableEq
instance:Rep TDraft:=Rep.via (β:=UInt8 × (List UInt8) × (List (UInt8 × UInt8)) × (List UInt8) × UInt8) fun x=>(x.fN,x.fw,x.fMore,x.fE,x.fK)
def wardmoteref21_Draft_Units_p (_n:Nat) (a0:TDraft):Option Int:=
  some ((1 + ((a0.fN % (9:UInt8)).toNat):Nat):Int)
theorem wardmoteref21_Draft_Units_c (n:Nat) (L:List Nat) (w:World) (_hL:∀ b ∈ L,b < w.heap.size) (a0:TDraft) {v0_1:Value} (_h0_1:Rep.R w L [v0_1] a0.fw) {v0_2:Value} (_h0_2:Rep.R w L [v0_2] a0.fMore) {v0_3:Value} (_h0_3:Rep.R w L [v0_3] a0.fE)  {r:Int} (h:wardmoteref21_Draft_Units_p n a0 = some r) :
    Calls Tryz.prog 38 #[.agg #[.int .u8 (a0.fN.toNat:Int),v0_1,v0_2,v0_3,.int .u8 (a0.fK.toNat:Int)]] w (Gives w fun _ u=>u = vI r):=by
 unfold wardmoteref21_Draft_Units_p at h
 have hS0:=AD w
 refine AI Tryz.func38 rfl rfl rfl (fun _ cs0 hb0=>?_)
 refine Ae<|Az .plain rfl (AK hS0 rfl rfl) (fun j0 c0 b0 d0=>?_)
 refine Af rfl<|Aa<|Ae<|Bf 0 rfl<|AN rfl ((b0.memA .hd) 0 _ rfl)<|Ac (FV.rem8 (a:=a0.fN) (b:=(9:UInt8)) rfl rfl (by decide)) ?_
 have g0:=(a0.fN % (9:UInt8)).toNat_lt
 refine Ac (FV.convN (i:=(a0.fN % (9:UInt8)).toNat) Tryz.underlying5 Tryz.underlying3 rfl (by omega))<|Ac (AT (i:=1) (j:=(a0.fN % (9:UInt8)).toNat) rfl rfl (by omega))<|Af rfl<|Aa<|Ao rfl<|AL hb0 Tryz.func38 rfl rfl ?_
 cases h
 exact b0.gv
def wardmoteref21_Draft_label_p (_n:Nat) (a0:TDraft) (a1:Int):Option Int:=
  (if a1 < ((a0.fE.length:Nat):Int) then (idx a0.fE a1).bind fun b0=>some ((b0.toNat:Nat):Int) else some (0:Int))
theorem wardmoteref21_Draft_label_c (n:Nat) (L:List Nat) (w:World) (_hL:∀ b ∈ L,b < w.heap.size) (a0:TDraft) {v0_1:Value} (_h0_1:Rep.R w L [v0_1] a0.fw) {v0_2:Value} (_h0_2:Rep.R w L [v0_2] a0.fMore) {v0_3:Value} (h0_3:Rep.R w L [v0_3] a0.fE) (a1:Int)  {r:Int} (h:wardmoteref21_Draft_label_p n a0 a1 = some r) :
    Calls Tryz.prog 39 #[.agg #[.int .u8 (a0.fN.toNat:Int),v0_1,v0_2,v0_3,.int .u8 (a0.fK.toNat:Int)],vI a1] w (Gives w fun _ u=>u = vI r):=by
 unfold wardmoteref21_Draft_label_p at h
 have hS0:=AD w
 refine AI Tryz.func39 rfl rfl rfl (fun _ cs0 hb0=>?_)
 refine Ae<|Az .plain rfl (AK hS0 rfl rfl) (fun E0 z0 b0 B0=>?_)
 refine Af rfl<|Aa<|Aj<|Ae<|Ab rfl<|Bf 3 rfl<|AN rfl ((b0.memA .hd) 3 _ rfl) ?_
 have c0:=Bn h0_3 b0
 have C0:a0.fE.length ≤ 281474976710656:=AO c0
 refine Ac (AZ (xs:=a0.fE) Tryz.underlying22 rfl c0)<|Ac (FV.lss (i:=a1) (j:=((a0.fE.length:Nat):Int)) rfl rfl)<|Aa<|AM rfl h (fun g0 h=>?_) (fun g0 h=>?_)
 refine Ae<|Bf 3 rfl<|AN rfl ((b0.memA .hd) 3 _ rfl)<|Ab rfl ?_
 obtain ⟨d0,v0,h⟩:=bi h
 obtain ⟨q0,x0⟩:=idx_in v0
 obtain ⟨y0,A0,k0,s0,j0,u0,t0⟩:=AS c0 x0
 have p0:j0 = [.int .u8 (d0.toNat:Int)]:=u0; subst p0
 refine Ac (AY 1 (a1.toNat) rfl k0 rfl q0 s0)<|AN rfl (t0 0 _ rfl) ?_
 have D0:=d0.toNat_lt
 refine Ac (FV.convN (i:=d0.toNat) Tryz.underlying5 Tryz.underlying3 rfl (by omega))<|Af rfl<|Aa<|Ao rfl<|AL hb0 Tryz.func39 rfl rfl ?_
 cases h
 exact b0.gv
 refine Am<|Ae<|Af rfl<|Aa<|Ao rfl<|AL hb0 Tryz.func39 rfl rfl ?_
 cases h
 exact b0.gv
def wardmoteref21_Labels_l1 (_n:Nat) (a0:List Int) (a1:Int) (d0:Nat → Option (Bool ⊕ Unit)):Nat → Option (Bool ⊕ Unit)
  | b0=>(if b0 < a0.length then (a0[b0]?).bind fun c0=>(if c0 < 0 then some (.inl false) else (if a1 ≤ c0 then some (.inl false) else d0 (b0 + 1))) else some (.inr ()))
def wardmoteref21_Labels_p (n:Nat) (a0:List Int) (a1:Int):Option Bool:=
  thn (loopF (wardmoteref21_Labels_l1 n a0 a1) n 0) (fun _=>(if 1 ≤ a0.length then some (decide (a0.length ≤ 64)) else some false))
theorem wardmoteref21_Labels_c (n:Nat) (L:List Nat) (w:World) (_hL:∀ b ∈ L,b < w.heap.size) (a0:List Int) {v0_0:Value} (h0_0:Rep.R w L [v0_0] a0) (a1:Int)  {r:Bool} (h:wardmoteref21_Labels_p n a0 a1 = some r) :
    Calls Tryz.prog 69 #[v0_0,vI a1] w (Gives w fun _ u=>u = .bool r):=by
 unfold wardmoteref21_Labels_p at h
 have hS0:=AD w
 refine AI Tryz.func69 rfl rfl rfl (fun _ cs0 hb0=>?_)
 refine Ae<|Af rfl<|Aa<|Aj<|Ae<|Af rfl<|Aa<|Au ?_
 obtain ⟨J0,C0,g0⟩:=thn_in h
 refine AW (α:=Nat) (fun b0=>[(0,v0_0),(1,vI a1),(5,vI ((b0:Nat):Int))]) (fun b0 j0=>St w j0 []∧Tr w [] j0 []) (fun b0=>b0) 0 C0 ⟨rfl,rfl,rfl,trivial⟩ ⟨hS0,AA _ _⟩ ?_
 rintro G0 b0 j0 z0 ⟨c0,A0⟩ h
 unfold wardmoteref21_Labels_l1 at h
 try dsimp only at h
 refine Aj<|Ae<|Ab rfl<|Ab rfl ?_
 have d0:=Bn h0_0 c0
 have I0:a0.length ≤ 281474976710656:=AO d0
 refine Ac (AZ (xs:=a0) Tryz.underlying33 rfl d0)<|Ac (Bg (i:=b0) (j:=a0.length) rfl rfl)<|Aa<|AM rfl h (fun t0 h=>?_) (fun t0 h=>?_)
 refine Am<|Aj<|Au<|Ae<|Ab rfl<|Ab rfl ?_
 obtain ⟨k0,E0,h⟩:=bi h
 obtain ⟨F0,H0,p0,q0,y0,D0,s0⟩:=AS d0 E0
 have B0:y0 = [vI k0]:=D0; subst B0
 refine Ac (AY 1 b0 rfl p0 rfl rfl q0)<|AN rfl (s0 0 _ rfl)<|Ac (FV.lss (i:=k0) (j:=0) rfl rfl)<|Ab rfl<|Bx (s:=17) rfl h (fun u0 h=>?_) (fun u0 h=>?_)
 refine Ag<|Ag<|Ag<|Ag<|Ag<|Ag<|AG rfl rfl<|Aa<|Bq rfl<|Ae<|Af rfl<|Aa ?_
 have h:=thn_inl h g0
 refine Ao rfl<|AL hb0 Tryz.func69 rfl rfl ?_
 cases h
 exact c0.gv
 refine Ar (Ah rfl)<|Ar (Ah rfl)<|Ar (AY 1 b0 rfl p0 rfl rfl q0)<|Ar (AJ rfl (s0 0 _ rfl))<|Ar (Ah rfl)<|Ar (FV.geq (i:=k0) (j:=a1) rfl rfl)<|Bd rfl rfl<|Aa<|AM rfl h (fun v0 h=>?_) (fun v0 h=>?_)
 refine Ae<|Af rfl<|Aa ?_
 have h:=thn_inl h g0
 refine Ao rfl<|AL hb0 Tryz.func69 rfl rfl ?_
 cases h
 exact c0.gv
 refine Am<|Aq<|Al<|Ab rfl<|Ac (AT (i:=b0) (j:=1) rfl rfl (by omega))<|Af rfl<|Aa ?_
 exact z0 (b0 + 1) _ _ ⟨rfl,rfl,rfl,trivial⟩ ⟨c0,A0⟩ h
 refine AR rfl ?_
 have h:=thn_inr h g0
 try dsimp only at h
 refine Ae<|Ab rfl<|Ac (AZ (xs:=a0) Tryz.underlying33 rfl d0)<|Ac (FV.geqN (i:=a0.length) (j:=1) rfl rfl)<|Ab rfl<|Bx (s:=28) rfl h (fun x0 h=>?_) (fun x0 h=>?_)
 refine Ar (Ah rfl)<|Ar (AZ (xs:=a0) Tryz.underlying33 rfl d0)<|Ar (FV.leqN (i:=a0.length) (j:=64) rfl rfl)<|AG rfl rfl<|Af rfl<|Aa<|Ao rfl<|AL hb0 Tryz.func69 rfl rfl ?_
 cases h
 exact c0.gv
 refine Ag<|Ag<|Ag<|Bd rfl rfl<|Af rfl<|Aa<|Ao rfl<|AL hb0 Tryz.func69 rfl rfl ?_
 cases h
 exact c0.gv
theorem body69:bodyB Tryz.prog 69 = true:=by kernel_rfl
def wardmoteref21_Canon_l1 (_n:Nat) (a0:List Int) (q0:Int × Nat × (List Int) × (List Int) → Option (List Int)):Int × Nat × (List Int) × (List Int) → Option (List Int)
  | (g0,b0,k0,d0)=>(if b0 < a0.length then (a0[b0]?).bind fun c0=>(idx d0 c0).bind fun t0=>jn (fun (y0,p0)=>(idx p0 c0).bind fun u0=>(app k0 ([u0]:List Int)).bind fun v0=>q0 (y0,b0 + 1,v0,p0)) (fun j0=>(if t0 < 0 then (put d0 ((c0.toNat:Nat):Int) g0).bind fun x0=>(chk (g0 + 1)).bind fun s0=>j0 (s0,x0) else j0 (g0,d0))) else some k0)
def wardmoteref21_Canon_p (n:Nat) (a0:List Int):Option ((List Int) × Int):=
  (wardmoteref21_Labels_p n a0 (8:Int)).bind fun y1=>(if y1 = true then Option.bind (loopF (wardmoteref21_Canon_l1 n a0) n (0,0,([]:List Int),([(-1:Int),(-1:Int),(-1:Int),(-1:Int),(-1:Int),(-1:Int),(-1:Int),(-1:Int)]:List Int))) (fun b0=>some (b0,(0:Int))) else some (([]:List Int),(210:Int)))
theorem wardmoteref21_Canon_c (n:Nat) (L:List Nat) (w:World) (hL:∀ b ∈ L,b < w.heap.size) (a0:List Int) {v0_0:Value} (h0_0:Rep.R w L [v0_0] a0)  {r:(List Int) × Int} (h:wardmoteref21_Canon_p n a0 = some r) :
    Calls Tryz.prog 40 #[v0_0] w (Gives w fun w' u=>∃ v0_0:Value,u = .tuple #[v0_0,vI r.2]∧Rep.R w' L [v0_0] r.1):=by
 unfold wardmoteref21_Canon_p at h
 have hS0:=AD w
 refine AI Tryz.func40 rfl rfl rfl (fun _ cs0 hb0=>?_)
 refine Ae<|Af rfl<|Af rfl<|Aa<|Aj<|Ae<|Ab rfl ?_
 obtain ⟨y1,hy1,h⟩:=bi h
 refine Bp (.bool y1) body69 rfl (e2 rfl rfl) (fun w9 hw9=>wardmoteref21_Labels_c n _ w9 (hS0.hL0 hL hw9) a0 (hS0.kd h0_0 hw9) (8:Int) hy1) rfl<|Ac (Be rfl)<|Aa<|MX.ifnb rfl h (fun c2 h=>?_) (fun c2 h=>?_)
 refine Am<|Ae<|Az .plain rfl (AF (α:=Int) (xs:=([(-1:Int),(-1:Int),(-1:Int),(-1:Int),(-1:Int),(-1:Int),(-1:Int),(-1:Int)]:List Int)) (vs:=[vI (-1),vI (-1),vI (-1),vI (-1),vI (-1),vI (-1),vI (-1),vI (-1)]) (ds' :=[vI (-1),vI (-1),vI (-1),vI (-1),vI (-1),vI (-1),vI (-1),vI (-1)]) rfl hS0 el32 rfl (e8 rfl rfl rfl rfl rfl rfl rfl rfl) (by kernel_rfl) rfl) (fun U2 j0 D0 s3=>?_)
 have M1:=Av (cs:=[vI (-1),vI (-1),vI (-1),vI (-1),vI (-1),vI (-1),vI (-1),vI (-1)]) (xs:=(([(-1:Int),(-1:Int),(-1:Int),(-1:Int),(-1:Int),(-1:Int),(-1:Int),(-1:Int)]:List Int):List Int)) D0 L (Ax (cs:=[vI (-1)]) (ds:=[vI (-1),vI (-1),vI (-1),vI (-1),vI (-1),vI (-1),vI (-1)]) rfl (Ax (cs:=[vI (-1)]) (ds:=[vI (-1),vI (-1),vI (-1),vI (-1),vI (-1),vI (-1)]) rfl (Ax (cs:=[vI (-1)]) (ds:=[vI (-1),vI (-1),vI (-1),vI (-1),vI (-1)]) rfl (Ax (cs:=[vI (-1)]) (ds:=[vI (-1),vI (-1),vI (-1),vI (-1)]) rfl (Ax (cs:=[vI (-1)]) (ds:=[vI (-1),vI (-1),vI (-1)]) rfl (Ax (cs:=[vI (-1)]) (ds:=[vI (-1),vI (-1)]) rfl (Ax (cs:=[vI (-1)]) (ds:=[vI (-1)]) rfl (Ax (cs:=[vI (-1)]) (ds:=[]) rfl (AC _ _)))))))))
 refine Af rfl<|Aa<|Ae<|Af rfl<|Aa<|Ae<|Af rfl<|Aa<|Aj<|Ae<|Af rfl<|Aa<|Au ?_
 have M0:=D0.nilRow 3 (Rep.size Int)
 have H1:=BF D0 3 (Rep.size Int)
 have P1:=Av (cs:=[]) (xs:=([]:List Int)) M0 L (AC _ _)
 have k2:=Ap M1 H1
 obtain ⟨v3,y2,d2⟩:=bind_in2 h
 refine AW (α:=Int × Nat × (List Int) × (List Int) × Value × (List Value) × (List Value)) (fun ⟨v0,g0,c0,k0,b0,d0,p0⟩=>[(0,v0_0),(4,(vS j0 8)),(5,vI v0),(6,b0),(7,vI ((g0:Nat):Int))]) (fun ⟨v0,g0,c0,k0,b0,d0,p0⟩ x0=>St w x0 [.row w.heap.size 3 (Rep.size Int) b0 c0.length d0,.row w.heap.size 3 (Rep.size Int) (vS j0 8) k0.length p0]∧Tr U2 [.row w.heap.size 3 (Rep.size Int) vN (([]:List Int).length) [],.row w.heap.size 3 (Rep.size Int) (vS j0 8) (([(-1:Int),(-1:Int),(-1:Int),(-1:Int),(-1:Int),(-1:Int),(-1:Int),(-1:Int)]:List Int).length) [vI (-1),vI (-1),vI (-1),vI (-1),vI (-1),vI (-1),vI (-1),vI (-1)]] x0 [.row w.heap.size 3 (Rep.size Int) b0 c0.length d0,.row w.heap.size 3 (Rep.size Int) (vS j0 8) k0.length p0]∧Cells x0 (bl [.row w.heap.size 3 (Rep.size Int) b0 c0.length d0,.row w.heap.size 3 (Rep.size Int) (vS j0 8) k0.length p0] ++ L) d0 c0∧Cells x0 (bl [.row w.heap.size 3 (Rep.size Int) b0 c0.length d0,.row w.heap.size 3 (Rep.size Int) (vS j0 8) k0.length p0] ++ L) p0 k0) (fun ⟨v0,g0,c0,k0,b0,d0,p0⟩=>(v0,g0,c0,k0)) (0,0,([]:List Int),([(-1:Int),(-1:Int),(-1:Int),(-1:Int),(-1:Int),(-1:Int),(-1:Int),(-1:Int)]:List Int),vN,[],[vI (-1),vI (-1),vI (-1),vI (-1),vI (-1),vI (-1),vI (-1),vI (-1)]) y2 ⟨rfl,rfl,rfl,rfl,rfl,trivial⟩ ⟨M0,AA _ _,P1,k2⟩ ?_
 rintro Z2 ⟨v0,g0,c0,k0,b0,d0,p0⟩ x0 D1 ⟨t0,I1,U0,G0⟩ h
 unfold wardmoteref21_Canon_l1 at h
 try dsimp only at h
 refine Aj<|Ae<|Ab rfl<|Ab rfl ?_
 have J0:=Bn h0_0 t0
 have u3:a0.length ≤ 281474976710656:=AO J0
 refine Ac (AZ (xs:=a0) Tryz.underlying33 rfl J0)<|Ac (Bg (i:=g0) (j:=a0.length) rfl rfl)<|Aa<|AM rfl h (fun t1 h=>?_) (fun t1 h=>?_)
 refine Am<|Aj<|Au<|Aj<|Ae<|Ab rfl<|Ab rfl<|Ab rfl ?_
 obtain ⟨y0,g1,h⟩:=bi h
 obtain ⟨X2,d3,W0,Z0,v1,z2,c1⟩:=AS J0 g1
 have V1:v1 = [vI y0]:=z2; subst V1
 refine Ac (AY 1 g0 rfl W0 rfl rfl Z0)<|AN rfl (c1 0 _ rfl) ?_
 obtain ⟨j1,H2,h⟩:=bi h
 obtain ⟨Y0,I2⟩:=idx_in H2
 obtain ⟨k1,g3,B0,I0,x1,A2,p2⟩:=St.nth (α:=Int) t0 (.tl .hd) G0 I2
 obtain ⟨q1,j3,X0⟩:=St.nthOwn (α:=Int) t0 (.tl .hd) I0
 obtain rfl:k1 = ⟨q1,0,none⟩:=by rw [X0] at B0; cases B0; rfl
 have W1:x1 = [vI j1]:=A2; subst W1
 refine Ac (AY 1 (y0.toNat) rfl B0 rfl Y0 I0)<|AN rfl (p2 0 _ rfl)<|Ac (FV.lss (i:=j1) (j:=0) rfl rfl)<|Aa<|MX.join (α:=Int × (List Int) × (List Value)) (fun ⟨z0,q0,s0⟩=>[(0,v0_0),(4,(vS j0 8)),(5,vI z0),(6,b0),(7,vI ((g0:Nat):Int))]) (fun ⟨z0,q0,s0⟩ C0=>St w C0 [.row w.heap.size 3 (Rep.size Int) b0 c0.length d0,.row w.heap.size 3 (Rep.size Int) (vS j0 8) q0.length s0]∧Tr x0 [.row w.heap.size 3 (Rep.size Int) b0 c0.length d0,.row w.heap.size 3 (Rep.size Int) (vS j0 8) k0.length p0] C0 [.row w.heap.size 3 (Rep.size Int) b0 c0.length d0,.row w.heap.size 3 (Rep.size Int) (vS j0 8) q0.length s0]∧Cells C0 (bl [.row w.heap.size 3 (Rep.size Int) b0 c0.length d0,.row w.heap.size 3 (Rep.size Int) (vS j0 8) q0.length s0] ++ L) s0 q0) (fun ⟨z0,q0,s0⟩=>(z0,q0)) h ?_ ?_
 rintro ⟨z0,q0,s0⟩ C0 ⟨A0,P0,V0⟩ h
 try dsimp only at h
 refine Al<|Ab rfl<|Ab rfl<|Ab rfl<|Ab rfl ?_
 have s2:=Bn h0_0 A0
 obtain ⟨Y2,k3,X1,j2,z1,B2,q2⟩:=AS s2 g1
 have Y1:z1 = [vI y0]:=B2; subst Y1
 refine Ac (AY 1 g0 rfl X1 rfl rfl j2)<|AN rfl (q2 0 _ rfl) ?_
 obtain ⟨u0,J2,h⟩:=bi h
 obtain ⟨g2,K2⟩:=idx_in J2
 obtain ⟨p1,p3,H0,b1,A1,C2,t2⟩:=St.nth (α:=Int) A0 (.tl .hd) V0 K2
 obtain ⟨s1,q3,Z1⟩:=St.nthOwn (α:=Int) A0 (.tl .hd) b1
 obtain rfl:p1 = ⟨s1,0,none⟩:=by rw [Z1] at H0; cases H0; rfl
 have b2:A1 = [vI u0]:=C2; subst b2
 refine Ac (AY 1 (y0.toNat) rfl H0 rfl g2 b1)<|AN rfl (t2 0 _ rfl)<|Az .plain rfl (AF (α:=Int) (xs:=([u0]:List Int)) (vs:=[vI u0]) (ds' :=[vI u0]) rfl A0 el33 rfl (e1 rfl) (by kernel_rfl) rfl) (fun x3 c3 E0 Q0=>?_)
 have Q1:=Av (cs:=[vI u0]) (xs:=(([u0]:List Int):List Int)) E0 L (Ax (cs:=[vI u0]) (ds:=[]) rfl (AC _ _))
 obtain ⟨V2,M2,h⟩:=bi h
 have u2:=Ap U0 (Tt P0 Q0)
 refine RG.doesL .plain rfl (Bc (α:=Int) (ys:=([u0]:List Int)) M2 E0 (fun _ _=>(.tl .hd)) el33 rfl rfl u2 (Src.row (α:=Int) E0 .hd Q1)) (fun R2 y3 ⟨B1,E1,J1,R1⟩=>?_)
 refine Af rfl<|Aa<|Aq<|Al<|Ab rfl<|Ac (AT (i:=g0) (j:=1) rfl rfl (by omega))<|Af rfl<|Aa ?_
 obtain ⟨F1,R0⟩:=Ay E1 (.one (.tl .hd) (.one (.tl .hd) .done))
 have v2:=Ap R1 R0
 have d1:=Tt Q0 (Tt J1 R0)
 have x2:=Ap V0 d1
 exact D1 (z0,g0 + 1,V2,q0,R2,B1,s0) _ _ ⟨rfl,rfl,rfl,rfl,rfl,trivial⟩ ⟨F1,(Tt I1 (Tt P0 d1)),v2,x2⟩ h
 intro b3 K0 h
 try dsimp only at h
 refine AM rfl h (fun u1 h=>?_) (fun u1 h=>?_)
 refine Ae<|Ab rfl<|Ab rfl<|Ab rfl<|Ac (AY 1 g0 rfl W0 rfl rfl Z0)<|AN rfl (c1 0 _ rfl)<|Ab rfl<|Ac (AY 1 (y0.toNat) rfl B0 rfl Y0 I0) ?_
 obtain ⟨W2,P2,h⟩:=bi h
 refine RG.acts' .plain (Acts.set (α:=Int) (i:=y0.toNat) P2 t0 X0 (fun _=>(.tl .hd)) G0 rfl rfl rfl rfl rfl (by kernel_rfl)) (fun z3 ⟨C1,G1,K1,U1⟩=>?_)
 refine Aa<|Al<|Ab rfl ?_
 obtain ⟨Q2,G2,h⟩:=bi h
 refine Ac (By (i:=v0) (j:=1) rfl rfl G2)<|Af rfl<|Aa ?_
 exact K0 (Q2,W2,C1) _ _ ⟨rfl,rfl,rfl,rfl,rfl,trivial⟩ ⟨G1,K1,U1⟩ h
 refine Am ?_
 exact K0 (v0,k0,p0) _ _ ⟨rfl,rfl,rfl,rfl,rfl,trivial⟩ ⟨t0,AA _ _,G0⟩ h
 refine AR rfl ?_
 have h:=d2 _ h
 try dsimp only at h
 refine Ae<|Ab rfl<|Af rfl<|Af rfl<|Aa<|Ao rfl ?_
 have D2:=AU (α:=Int) t0 .hd U0 hL
 have F0:=Bk t0 .hd
 have t3:=Bl t0 .hd
 have E2:=Bm (α:=Int) (v:=b0) (xs:=c0) F0 L D2
 refine AB hb0 Tryz.func40 rfl (.cons (.tmp rfl) (.cons (.tmp rfl) .nil)) rfl ?_
 cases h
 exact ⟨F0.ag,fun w9 hw9=>⟨b0,rfl,F0.kd E2 hw9⟩⟩
 refine Ae<|Af rfl<|Af rfl<|Aa<|Ao rfl ?_
 have F2:=Bt (α:=Int) hS0 L
 refine AB hb0 Tryz.func40 rfl (.cons (.tmp rfl) (.cons (.tmp rfl) .nil)) rfl ?_
 cases h
 exact ⟨hS0.ag,fun w9 hw9=>⟨vN,rfl,hS0.kd F2 hw9⟩⟩
def tb10_5:List (Nat × Nat × Nat):=[(0,16384,16),(0,32768,2),(0,65536,32),(6,131072,98304),(0,262144,2),(16,524288,262144),(32,1048576,524288),(64,2097152,1048576),(128,4194304,2097152),(264,8388608,4325376),(512,16777216,8388608),(1033,33554432,16793600),(4095,16,33554432)]
theorem body38:bodyB Tryz.prog 38 = true:=by kernel_rfl
theorem body39:bodyB Tryz.prog 39 = true:=by kernel_rfl
theorem body40:bodyB Tryz.prog 40 = true:=by kernel_rfl
def wardmoteref21_Draft_Loose_l1 (_n:Nat) (c0:(List Int) × Int) (g0:Int × Nat → Option Int):Int × Nat → Option Int
  | (d0,b0)=>(if b0 < c0.1.length then (c0.1[b0]?).bind fun k0=>(chk (k0 + 1)).bind fun j0=>g0 (max d0 j0,b0 + 1) else some d0)
def wardmoteref21_Draft_Loose_l2 (n:Nat) (a0:TDraft) (d0:Int × (List Int) → Option (List Int)):Int × (List Int) → Option (List Int)
  | (b0,c0)=>(wardmoteref21_Draft_Units_p n a0).bind fun p0=>(if b0 < p0 then (wardmoteref21_Draft_label_p n a0 b0).bind fun q0=>(remI q0 ((1 + ((a0.fK % (8:UInt8)).toNat):Nat):Int)).bind fun j0=>(app c0 ([j0]:List Int)).bind fun k0=>(chk (b0 + 1)).bind fun g0=>d0 (g0,k0) else some c0)
def wardmoteref21_Draft_Loose_p (n:Nat) (a0:TDraft):Option ((List Int) × Int):=
  Option.bind (loopF (wardmoteref21_Draft_Loose_l2 n a0) n (0,([]:List Int))) (fun c0=>(wardmoteref21_Canon_p n c0).bind fun b0=>Option.bind (loopF (wardmoteref21_Draft_Loose_l1 n b0) n (0,0)) (fun d0=>some (b0.1,d0)))
theorem wardmoteref21_Draft_Loose_c (n:Nat) (L:List Nat) (w:World) (hL:∀ b ∈ L,b < w.heap.size) (a0:TDraft) {v0_1:Value} (h0_1:Rep.R w L [v0_1] a0.fw) {v0_2:Value} (h0_2:Rep.R w L [v0_2] a0.fMore) {v0_3:Value} (h0_3:Rep.R w L [v0_3] a0.fE)  {r:(List Int) × Int} (h:wardmoteref21_Draft_Loose_p n a0 = some r) :
    Calls Tryz.prog 10 #[.agg #[.int .u8 (a0.fN.toNat:Int),v0_1,v0_2,v0_3,.int .u8 (a0.fK.toNat:Int)]] w (Gives w fun w' u=>∃ v0_0:Value,u = .tuple #[v0_0,vI r.2]∧Rep.R w' L [v0_0] r.1):=by
 unfold wardmoteref21_Draft_Loose_p at h
 have hS0:=AD w
 refine AI Tryz.func10 rfl rfl rfl (fun _ cs0 hb0=>?_)
 refine Ae<|Az .plain rfl (AK hS0 rfl rfl) (fun b2 v0 E0 u2=>?_)
 refine Af rfl<|Af rfl<|Aa<|Ae<|Af rfl<|Aa<|Aj<|Ae<|Af rfl<|Aa<|Au ?_
 have F0:=E0.nilRow 3 (Rep.size Int)
 have v2:=BF E0 3 (Rep.size Int)
 have u1:=Av (cs:=[]) (xs:=([]:List Int)) F0 L (AC _ _)
 obtain ⟨A2,F1,z1⟩:=bind_in2 h
 refine AW (α:=Int × (List Int) × Value × (List Value)) (fun ⟨q0,g0,p0,s0⟩=>[(1,vP v0),(4,p0),(5,vI q0)]) (fun ⟨q0,g0,p0,s0⟩ y0=>St w y0 [.row w.heap.size 3 (Rep.size Int) p0 g0.length s0,.cells v0 [.int .u8 (a0.fN.toNat:Int),v0_1,v0_2,v0_3,.int .u8 (a0.fK.toNat:Int)] 25]∧Tr b2 [.row w.heap.size 3 (Rep.size Int) vN (([]:List Int).length) [],.cells v0 [.int .u8 (a0.fN.toNat:Int),v0_1,v0_2,v0_3,.int .u8 (a0.fK.toNat:Int)] 25] y0 [.row w.heap.size 3 (Rep.size Int) p0 g0.length s0,.cells v0 [.int .u8 (a0.fN.toNat:Int),v0_1,v0_2,v0_3,.int .u8 (a0.fK.toNat:Int)] 25]∧Cells y0 (bl [.row w.heap.size 3 (Rep.size Int) p0 g0.length s0,.cells v0 [.int .u8 (a0.fN.toNat:Int),v0_1,v0_2,v0_3,.int .u8 (a0.fK.toNat:Int)] 25] ++ L) s0 g0) (fun ⟨q0,g0,p0,s0⟩=>(q0,g0)) (0,([]:List Int),vN,[]) F1 ⟨rfl,rfl,rfl,trivial⟩ ⟨F0,AA _ _,u1⟩ ?_
 rintro k2 ⟨q0,g0,p0,s0⟩ y0 Z0 ⟨b0,p1,J0⟩ h
 unfold wardmoteref21_Draft_Loose_l2 at h
 try dsimp only at h
 refine Aj<|Ae<|Ab rfl<|Ac (AE rfl (b0.memA (.tl .hd))) ?_
 obtain ⟨Q0,W1,h⟩:=bi h
 refine Bp (vI Q0) body38 rfl (e1 rfl) (fun w9 hw9=>wardmoteref21_Draft_Units_c n _ w9 (b0.hL0 hL hw9) a0 (b0.k0 h0_1 hw9) (b0.k0 h0_2 hw9) (b0.k0 h0_3 hw9) W1) rfl<|Ac (FV.lss (i:=q0) (j:=Q0) rfl rfl)<|Aa<|AM rfl h (fun V0 h=>?_) (fun V0 h=>?_)
 refine Am<|Aj<|Au<|dt 11 tb10_5 (fun c0 d0=>?_)
 refine Ai 0 1 c0 rfl d0 (fun _=>Ah rfl) rfl<|AV 1 3 7688 c0 rfl d0 (AE rfl (b0.memA (.tl .hd))) rfl<|Ai 2 7 c0 rfl d0 (fun _=>Ah rfl) rfl ?_
 obtain ⟨R0,X1,h⟩:=bi h
 refine RD.cq 3 15 7680 (vI R0) c0 rfl d0 body39 rfl (e2 rfl rfl) (fun w9 hw9=>wardmoteref21_Draft_label_c n _ w9 (b0.hL0 hL hw9) a0 (b0.k0 h0_1 hw9) (b0.k0 h0_2 hw9) (b0.k0 h0_3 hw9) q0 X1) rfl<|Ai 4 31 c0 rfl d0 (fun _=>Br 4 rfl) rfl<|AV 5 63 8128 c0 rfl d0 (AJ rfl ((b0.memA (.tl .hd)) 4 _ rfl)) rfl<|Ai 6 127 c0 rfl d0 (fun _=>FV.rem8 (a:=a0.fK) (b:=(8:UInt8)) rfl rfl (by decide)) rfl ?_
 have y2:=(a0.fK % (8:UInt8)).toNat_lt
 refine Ai 7 255 c0 rfl d0 (fun _=>FV.convN (i:=(a0.fK % (8:UInt8)).toNat) Tryz.underlying5 Tryz.underlying3 rfl (by omega)) rfl<|Ai 8 511 c0 rfl d0 (fun _=>AT (i:=1) (j:=(a0.fK % (8:UInt8)).toNat) rfl rfl (by omega)) rfl ?_
 obtain ⟨t0,Q1,h⟩:=bi h
 refine Ai 9 1023 c0 rfl d0 (fun _=>FV.remc (i:=R0) (j:=((1 + ((a0.fK % (8:UInt8)).toNat):Nat):Int)) rfl rfl Q1) rfl<|RD.nu 10 2047 c0 rfl .plain rfl (AF (α:=Int) (xs:=([t0]:List Int)) (vs:=[vI t0]) (ds' :=[vI t0]) rfl b0 el33 rfl (e1 rfl) (by kernel_rfl) rfl) (fun D2 p2 z0 G0=>?_)
 have s1:=Av (cs:=[vI t0]) (xs:=(([t0]:List Int):List Int)) z0 L (Ax (cs:=[vI t0]) (ds:=[]) rfl (AC _ _))
 obtain ⟨d2,U1,h⟩:=bi h
 have B1:=Ap J0 G0
 refine RD.one (i:=11) (rk c0) (BD (m' :=4095) (sk c0) rfl rfl .plain rfl (Bc (α:=Int) (ys:=([t0]:List Int)) U1 z0 (fun _ _=>(.tl .hd)) el33 rfl rfl B1 (Src.row (α:=Int) z0 .hd s1)) (fun Z1 C2 ⟨W0,b1,j1,t1⟩=>?_))
 refine Ai 12 8191 c0 rfl d0 (fun _=>Bw rfl) rfl<|AX (dk c0)<|Aq<|Al<|Ab rfl ?_
 obtain ⟨Y1,M1,h⟩:=bi h
 refine Ac (By (i:=q0) (j:=1) rfl rfl M1)<|Af rfl<|Aa ?_
 obtain ⟨c1,H0⟩:=Ay b1 (.one (.tl .hd) (.one (.tl .hd) .done))
 have C1:=Ap t1 H0
 have G1:=Tt G0 (Tt j1 H0)
 exact Z0 (Y1,d2,Z1,W0) _ _ ⟨rfl,rfl,rfl,trivial⟩ ⟨c1,(Tt p1 G1),C1⟩ h
 refine AR rfl ?_
 have h:=z1 _ h
 try dsimp only at h
 refine Ae<|Ab rfl ?_
 have H1:=AU (α:=Int) b0 .hd J0 hL
 have A0:=Bk b0 .hd
 have s2:=Bl b0 .hd
 have I1:=Bm (α:=Int) (v:=p0) (xs:=g0) A0 L H1
 obtain ⟨D0,V1,h⟩:=bi h
 refine AQ (fst:=[]) (cap:=[]) .plain body40 rfl (e1 rfl) (fun w9 hw9=>wardmoteref21_Canon_c n _ w9 (A0.hL hL hw9) g0 (AH I1 hw9) V1) rfl (fun c2 B2 q1 ⟨M0,hu_,J1⟩=>?_)
 subst hu_
 obtain ⟨d1,t2⟩:=A0.agr q1
 refine Ab rfl<|Ac (Ak rfl rfl)<|Ac (Ak rfl rfl)<|Af rfl<|Aa<|Ae<|Af rfl<|Aa<|Aj<|Ae<|Af rfl<|Aa<|Au ?_
 obtain ⟨g1,k1⟩:=Ay d1 .done
 obtain ⟨z2,E1,y1⟩:=bind_in2 h
 refine AW (α:=Int × Nat) (fun ⟨u0,j0⟩=>[(4,M0),(6,vI u0),(7,vI ((j0:Nat):Int))]) (fun ⟨u0,j0⟩ C0=>St w C0 []∧Tr c2 [] C0 []) (fun ⟨u0,j0⟩=>(u0,j0)) (0,0) E1 ⟨rfl,rfl,rfl,trivial⟩ ⟨g1,AA _ _⟩ ?_
 rintro j2 ⟨u0,j0⟩ C0 Y0 ⟨B0,I0⟩ h
 unfold wardmoteref21_Draft_Loose_l1 at h
 try dsimp only at h
 refine Aj<|Ae<|Ab rfl<|Ab rfl ?_
 have x0:=Aw J1 (Tt k1 I0)
 have x2:D0.1.length ≤ 281474976710656:=AO x0
 refine Ac (AZ (xs:=D0.1) Tryz.underlying33 rfl x0)<|Ac (Bg (i:=j0) (j:=D0.1.length) rfl rfl)<|Aa<|AM rfl h (fun U0 h=>?_) (fun U0 h=>?_)
 refine Am<|Aj<|Au<|Al<|Ab rfl<|Ab rfl<|Ab rfl ?_
 obtain ⟨P0,R1,h⟩:=bi h
 obtain ⟨g2,q2,v1,A1,X0,K1,D1⟩:=AS x0 R1
 have x1:X0 = [vI P0]:=K1; subst x1
 refine Ac (AY 1 j0 rfl v1 rfl rfl A1)<|AN rfl (D1 0 _ rfl) ?_
 obtain ⟨K0,P1,h⟩:=bi h
 refine Ac (By (i:=P0) (j:=1) rfl rfl P1)<|Ac (FV.max2 (i:=u0) (j:=K0) rfl rfl)<|Af rfl<|Aa<|Aq<|Al<|Ab rfl<|Ac (AT (i:=j0) (j:=1) rfl rfl (by omega))<|Af rfl<|Aa ?_
 exact Y0 (max u0 K0,j0 + 1) _ _ ⟨rfl,rfl,rfl,trivial⟩ ⟨B0,I0⟩ h
 refine AR rfl ?_
 have h:=y1 _ h
 try dsimp only at h
 refine Ae<|Ab rfl<|Ab rfl<|Af rfl<|Af rfl<|Aa<|Ao rfl<|AB hb0 Tryz.func10 rfl (.cons (.tmp rfl) (.cons (.tmp rfl) .nil)) rfl ?_
 cases h
 exact ⟨B0.ag,fun w9 hw9=>⟨M0,rfl,B0.kd x0 hw9⟩⟩
structure TDraft26 where
  fe:UInt8
  fc:UInt8
  fh:UInt8
  fo:UInt8
  fF:List UInt8
  deriving DecidableEq
instance:Rep TDraft26:=Rep.via (β:=UInt8 × UInt8 × UInt8 × UInt8 × (List UInt8)) fun x=>(x.fe,x.fc,x.fh,x.fo,x.fF)
def tb41_3:List (Nat × Nat × Nat):=[(0,512,4),(1,1024,512),(0,2048,2),(0,4096,4),(8,8192,4096),(16,16384,8192),(36,32768,18432),(66,65536,33792),(128,131072,65536),(256,262144,131072),(1023,16,262144)]
def wardmoteref22_Draft_num_p (_n:Nat) (a0:TDraft26) (a1:Int):Option Int:=
  (if a0.fF.length = 0 then some (1:Int) else (remI a1 ((a0.fF.length:Nat):Int)).bind fun b0=>(idx a0.fF b0).bind fun c0=>some ((c0.toNat:Nat):Int))
theorem wardmoteref22_Draft_num_c (n:Nat) (L:List Nat) (w:World) (_hL:∀ b ∈ L,b < w.heap.size) (a0:TDraft26) {v0_4:Value} (h0_4:Rep.R w L [v0_4] a0.fF) (a1:Int)  {r:Int} (h:wardmoteref22_Draft_num_p n a0 a1 = some r) :
    Calls Tryz.prog 41 #[.agg #[.int .u8 (a0.fe.toNat:Int),.int .u8 (a0.fc.toNat:Int),.int .u8 (a0.fh.toNat:Int),.int .u8 (a0.fo.toNat:Int),v0_4],vI a1] w (Gives w fun _ u=>u = vI r):=by
 unfold wardmoteref22_Draft_num_p at h
 have hS0:=AD w
 refine AI Tryz.func41 rfl rfl rfl (fun _ cs0 hb0=>?_)
 refine Ae<|Az .plain rfl (AK hS0 rfl rfl) (fun I0 D0 d0 F0=>?_)
 refine Af rfl<|Aa<|Aj<|Ae<|Bf 4 rfl<|AN rfl ((d0.memA .hd) 4 _ rfl) ?_
 have g0:=Bn h0_4 d0
 have G0:a0.fF.length ≤ 281474976710656:=AO g0
 refine Ac (AZ (xs:=a0.fF) Tryz.underlying22 rfl g0)<|Ac (BG (i:=a0.fF.length) (j:=0) rfl rfl)<|Aa<|AM rfl h (fun k0 h=>?_) (fun k0 h=>?_)
 refine Ae<|Af rfl<|Aa<|Ao rfl<|AL hb0 Tryz.func41 rfl rfl ?_
 cases h
 exact d0.gv
 refine Am<|Aj<|dt 11 tb41_3 (fun b0 c0=>?_)
 refine Ai 0 1 b0 rfl c0 (fun _=>Br 4 rfl) rfl<|AV 1 3 1920 b0 rfl c0 (AJ rfl ((d0.memA .hd) 4 _ rfl)) rfl<|Ai 2 7 b0 rfl c0 (fun _=>Ah rfl) rfl<|Ai 3 15 b0 rfl c0 (fun _=>Br 4 rfl) rfl<|AV 4 31 2016 b0 rfl c0 (AJ rfl ((d0.memA .hd) 4 _ rfl)) rfl<|AV 5 63 1984 b0 rfl c0 (AZ (xs:=a0.fF) Tryz.underlying22 rfl g0) rfl ?_
 obtain ⟨B0,y0,h⟩:=bi h
 refine Ai 6 127 b0 rfl c0 (fun _=>FV.remc (i:=a1) (j:=((a0.fF.length:Nat):Int)) rfl rfl y0) rfl ?_
 obtain ⟨j0,z0,h⟩:=bi h
 obtain ⟨t0,A0⟩:=idx_in z0
 obtain ⟨C0,E0,q0,u0,p0,x0,v0⟩:=AS g0 A0
 have s0:p0 = [.int .u8 (j0.toNat:Int)]:=x0; subst s0
 refine Ai 7 255 b0 rfl c0 (fun _=>AY 1 (B0.toNat) rfl q0 rfl t0 u0) rfl<|AV 8 511 1536 b0 rfl c0 (AJ rfl (v0 0 _ rfl)) rfl ?_
 have H0:=j0.toNat_lt
 refine Ai 9 1023 b0 rfl c0 (fun _=>FV.convN (i:=j0.toNat) Tryz.underlying5 Tryz.underlying3 rfl (by omega)) rfl<|Ai 10 2047 b0 rfl c0 (fun _=>Bw rfl) rfl<|AX (dk b0)<|Ao rfl<|AL hb0 Tryz.func41 rfl rfl ?_
 cases h
 exact d0.gv
theorem body41:bodyB Tryz.prog 41 = true:=by kernel_rfl
def wardmoteref22_Draft_list_l1 (n:Nat) (a1:Int) (a2:Int) (a0:TDraft26) (a3:Int) (d0:Int × (List Int) → Option (List Int)):Int × (List Int) → Option (List Int)
  | (b0,c0)=>(if b0 < a1 then (chk (a2 + b0)).bind fun j0=>(wardmoteref22_Draft_num_p n a0 j0).bind fun p0=>(app c0 ([min p0 a3]:List Int)).bind fun k0=>(chk (b0 + 1)).bind fun g0=>d0 (g0,k0) else some c0)
def wardmoteref22_Draft_list_p (n:Nat) (a0:TDraft26) (a1:Int) (a2:Int) (a3:Int):Option (List Int):=
  Option.bind (loopF (wardmoteref22_Draft_list_l1 n a1 a2 a0 a3) n (0,([]:List Int))) (fun b0=>some b0)
theorem wardmoteref22_Draft_list_c (n:Nat) (L:List Nat) (w:World) (hL:∀ b ∈ L,b < w.heap.size) (a0:TDraft26) {v0_4:Value} (h0_4:Rep.R w L [v0_4] a0.fF) (a1:Int) (a2:Int) (a3:Int)  {r:List Int} (h:wardmoteref22_Draft_list_p n a0 a1 a2 a3 = some r) :
    Calls Tryz.prog 42 #[.agg #[.int .u8 (a0.fe.toNat:Int),.int .u8 (a0.fc.toNat:Int),.int .u8 (a0.fh.toNat:Int),.int .u8 (a0.fo.toNat:Int),v0_4],vI a1,vI a2,vI a3] w (Gives w fun w' u=>∃ v0_0:Value,u = v0_0∧Rep.R w' L [v0_0] r):=by
 unfold wardmoteref22_Draft_list_p at h
 have hS0:=AD w
 refine AI Tryz.func42 rfl rfl rfl (fun _ cs0 hb0=>?_)
 refine Ae<|Az .plain rfl (AK hS0 rfl rfl) (fun j1 q0 v0 u1=>?_)
 refine Af rfl<|Aa<|Ae<|Af rfl<|Aa<|Aj<|Ae<|Af rfl<|Aa<|Au ?_
 have x0:=v0.nilRow 3 (Rep.size Int)
 have v1:=BF v0 3 (Rep.size Int)
 have I0:=Av (cs:=[]) (xs:=([]:List Int)) x0 L (AC _ _)
 obtain ⟨x1,R0,M0⟩:=bind_in2 h
 refine AW (α:=Int × (List Int) × Value × (List Value)) (fun ⟨g0,c0,b0,j0⟩=>[(1,vI a1),(2,vI a2),(3,vI a3),(4,vP q0),(9,b0),(10,vI g0)]) (fun ⟨g0,c0,b0,j0⟩ s0=>St w s0 [.row w.heap.size 3 (Rep.size Int) b0 c0.length j0,.cells q0 [.int .u8 (a0.fe.toNat:Int),.int .u8 (a0.fc.toNat:Int),.int .u8 (a0.fh.toNat:Int),.int .u8 (a0.fo.toNat:Int),v0_4] 27]∧Tr j1 [.row w.heap.size 3 (Rep.size Int) vN (([]:List Int).length) [],.cells q0 [.int .u8 (a0.fe.toNat:Int),.int .u8 (a0.fc.toNat:Int),.int .u8 (a0.fh.toNat:Int),.int .u8 (a0.fo.toNat:Int),v0_4] 27] s0 [.row w.heap.size 3 (Rep.size Int) b0 c0.length j0,.cells q0 [.int .u8 (a0.fe.toNat:Int),.int .u8 (a0.fc.toNat:Int),.int .u8 (a0.fh.toNat:Int),.int .u8 (a0.fo.toNat:Int),v0_4] 27]∧Cells s0 (bl [.row w.heap.size 3 (Rep.size Int) b0 c0.length j0,.cells q0 [.int .u8 (a0.fe.toNat:Int),.int .u8 (a0.fc.toNat:Int),.int .u8 (a0.fh.toNat:Int),.int .u8 (a0.fo.toNat:Int),v0_4] 27] ++ L) j0 c0) (fun ⟨g0,c0,b0,j0⟩=>(g0,c0)) (0,([]:List Int),vN,[]) R0 ⟨rfl,rfl,rfl,rfl,rfl,rfl,trivial⟩ ⟨x0,AA _ _,I0⟩ ?_
 rintro p1 ⟨g0,c0,b0,j0⟩ s0 D0 ⟨p0,G0,A0⟩ h
 unfold wardmoteref22_Draft_list_l1 at h
 try dsimp only at h
 refine Aj<|Ae<|Ab rfl<|Ab rfl<|Ac (FV.lss (i:=g0) (j:=a1) rfl rfl)<|Aa<|AM rfl h (fun B0 h=>?_) (fun B0 h=>?_)
 refine Am<|Aj<|Au<|Al<|Ab rfl<|Ac (AE rfl (p0.memA (.tl .hd)))<|Ab rfl<|Ab rfl ?_
 obtain ⟨d1,Y0,h⟩:=bi h
 refine Ac (By (i:=a2) (j:=g0) rfl rfl Y0) ?_
 obtain ⟨d0,b1,h⟩:=bi h
 refine Bp (vI d0) body41 rfl (e2 rfl rfl) (fun w9 hw9=>wardmoteref22_Draft_num_c n _ w9 (p0.hL0 hL hw9) a0 (p0.k0 h0_4 hw9) d1 b1) rfl<|Ab rfl<|Ac (FV.min2 (i:=d0) (j:=a3) rfl rfl)<|Az .plain rfl (AF (α:=Int) (xs:=([min d0 a3]:List Int)) (vs:=[vI (min d0 a3)]) (ds' :=[vI (min d0 a3)]) rfl p0 el32 rfl (e1 rfl) (by kernel_rfl) rfl) (fun y1 q1 u0 z0=>?_)
 have J0:=Av (cs:=[vI (min d0 a3)]) (xs:=(([min d0 a3]:List Int):List Int)) u0 L (Ax (cs:=[vI (min d0 a3)]) (ds:=[]) rfl (AC _ _))
 obtain ⟨k1,Z0,h⟩:=bi h
 have Q0:=Ap A0 z0
 refine RG.doesL .plain rfl (Bc (α:=Int) (ys:=([min d0 a3]:List Int)) Z0 u0 (fun _ _=>(.tl .hd)) el32 rfl rfl Q0 (Src.row (α:=Int) u0 .hd J0)) (fun g1 z1 ⟨C0,F0,H0,K0⟩=>?_)
 refine Af rfl<|Aa<|Aq<|Al<|Ab rfl ?_
 obtain ⟨c1,X0,h⟩:=bi h
 refine Ac (By (i:=g0) (j:=1) rfl rfl X0)<|Af rfl<|Aa ?_
 obtain ⟨E0,y0⟩:=Ay F0 (.one (.tl .hd) (.one (.tl .hd) .done))
 have P0:=Ap K0 y0
 have U0:=Tt z0 (Tt H0 y0)
 exact D0 (c1,k1,g1,C0) _ _ ⟨rfl,rfl,rfl,rfl,rfl,rfl,trivial⟩ ⟨E0,(Tt G0 U0),P0⟩ h
 refine AR rfl ?_
 have h:=M0 _ h
 try dsimp only at h
 refine Ae<|Ab rfl<|Af rfl<|Aa<|Ao rfl ?_
 have V0:=AU (α:=Int) p0 .hd A0 hL
 have t0:=Bk p0 .hd
 have s1:=Bl p0 .hd
 have W0:=Bm (α:=Int) (v:=b0) (xs:=c0) t0 L V0
 refine AL hb0 Tryz.func42 rfl rfl ?_
 cases h
 exact ⟨t0.ag,fun w9 hw9=>⟨b0,rfl,t0.kd W0 hw9⟩⟩
end Go.Proofs.YtfncplndfpgngaaGreatDoor
