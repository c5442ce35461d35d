/- Functions of the program, and what they give: part 6. -/
import Derived.Test.YtcijnmkodpfpgaaGreatDoorZS5
namespace Go.Proofs.YtcijnmkodpfpgaaGreatDoor
open Go Go.RowKit
set_option maxRecDepth 4000
set_option maxHeartbeats 4000000

def wardmoteref22_fits_l1 (_n:Nat) (a2:Int) (j0:List Bool) (c0:Int → Option (Bool ⊕ Unit)):Int → Option (Bool ⊕ Unit)
  | b0=>(if b0 < a2 then (idx j0 b0).bind fun g0=>(if g0 = true then (chk (b0 + 1)).bind fun d0=>c0 d0 else some (.inl false)) else some (.inr ()))
def wardmoteref22_fits_l2 (_n:Nat) (a1:Int) (a0:List Int) (a2:Int) (g0:Int × (List Bool) → Option (Bool ⊕ (List Bool))):Int × (List Bool) → Option (Bool ⊕ (List Bool))
  | (d0,c0)=>(if d0 < a1 then (idx a0 d0).bind fun b0=>(if b0 < 0 then some (.inl false) else (if a2 ≤ b0 then some (.inl false) else (idx c0 b0).bind fun p0=>(put c0 ((b0.toNat:Nat):Int) true).bind fun k0=>(chk (d0 + 1)).bind fun j0=>g0 (j0,k0))) else some (.inr c0))
def wardmoteref22_fits_p (n:Nat) (a0:List Int) (a1:Int) (a2:Int):Option Bool:=
  (if ((a0.length:Nat):Int) = a1 then (mk a2 false).bind fun xs4=>thn (loopF (wardmoteref22_fits_l2 n a1 a0 a2) n (0,xs4)) (fun b0=>thn (loopF (wardmoteref22_fits_l1 n a2 b0) n 0) (fun _=>some true)) else some false)
theorem wardmoteref22_fits_c (n:Nat) (L:List Nat) (w:World) (_hL:∀ b ∈ L,b < w.heap.size) (a0:List Int) {v0_0:Value} (h0_0:Rep.R w L [v0_0] a0) (a1:Int) (a2:Int)  {r:Bool} (h:wardmoteref22_fits_p n a0 a1 a2 = some r) :
    Calls Tryz.prog 103 #[v0_0,vI a1,vI a2] w (Gives w fun _ u=>u = .bool r):=by
 unfold wardmoteref22_fits_p at h
 have hS0:=AK w
 refine AM Tryz.func103 rfl rfl rfl (fun _ cs0 hb0=>?_)
 refine Ae<|Ag rfl<|Aa<|Ak<|Ae<|Ac rfl ?_
 have hl1:a0.length ≤ 281474976710656:=AZ h0_0
 refine Ab (Bj (xs:=a0) Tryz.underlying43 rfl h0_0)<|Ac rfl<|Ab (BO (i:=((a0.length:Nat):Int)) (j:=a1) rfl rfl)<|Aa<|BV rfl h (fun c2 h=>?_) (fun c2 h=>?_)
 refine Ao<|Ae<|Ac rfl ?_
 obtain ⟨xs4,hxs4,h⟩:=bi h
 refine Az .plain rfl (Does.mk (α:=Bool) hxs4 hS0 el182 rfl) (fun w5 b8 hS6 hT7=>?_)
 have hc9:=Ar (cs:=(List.replicate a2.toNat [.bool false]).flatten) (xs:=xs4) hS6 L (Cells.mk hxs4 rfl)
 refine Ag rfl<|Aa<|Ak<|Ae<|Ag rfl<|Aa<|AB ?_
 obtain ⟨s2,A1,x0⟩:=thn_in h
 refine Bp (α:=Int × (List Bool) × (List Value)) (fun ⟨d0,b0,c0⟩=>[(0,v0_0),(1,vI a1),(2,vI a2),(7,(.slice (some ⟨b8,0,none⟩) a2.toNat a2.toNat)),(8,vI d0)]) (fun ⟨d0,b0,c0⟩ p0=>St w p0 [.row w.heap.size 4 (Rep.size Bool) (.slice (some ⟨b8,0,none⟩) a2.toNat a2.toNat) b0.length c0]∧Tr w5 [.row w.heap.size 4 (Rep.size Bool) (.slice (some ⟨b8,0,none⟩) a2.toNat a2.toNat) xs4.length ((List.replicate a2.toNat [.bool false]).flatten)] p0 [.row w.heap.size 4 (Rep.size Bool) (.slice (some ⟨b8,0,none⟩) a2.toNat a2.toNat) b0.length c0]∧Cells p0 (bl [.row w.heap.size 4 (Rep.size Bool) (.slice (some ⟨b8,0,none⟩) a2.toNat a2.toNat) b0.length c0] ++ L) c0 b0) (fun ⟨d0,b0,c0⟩=>(d0,b0)) (0,xs4,(List.replicate a2.toNat [.bool false]).flatten) A1 ⟨rfl,rfl,rfl,rfl,rfl,trivial⟩ ⟨hS6,AN _ _,hc9⟩ ?_
 rintro Z1 ⟨d0,b0,c0⟩ p0 Z0 ⟨j0,g1,s0⟩ h
 unfold wardmoteref22_fits_l2 at h
 try dsimp only at h
 refine Ak<|Ae<|Ac rfl<|Ac rfl<|Ab (BF (i:=d0) (j:=a1) rfl rfl)<|Aa<|AW rfl h (fun M0 h=>?_) (fun M0 h=>?_)
 refine Ao<|Ak<|AB<|Ak<|Ae<|Ac rfl<|Ac rfl ?_
 obtain ⟨q0,H1,h⟩:=bi h
 obtain ⟨y0,I1⟩:=idx_in H1
 have x1:=Ax h0_0 j0
 obtain ⟨Y1,d2,t0,z0,V0,C1,A0⟩:=Bb x1 I1
 have k1:V0 = [vI q0]:=C1; subst k1
 refine Ab (Be 1 (d0.toNat) rfl t0 rfl y0 z0)<|AS rfl (A0 0 _ rfl)<|Ab (BF (i:=q0) (j:=0) rfl rfl)<|Ac rfl<|Bi (s:=26) rfl h (fun P0 h=>?_) (fun P0 h=>?_)
 refine Af<|Af<|Af<|Af<|Af<|Af<|AU rfl rfl<|Aa<|AY rfl<|Ae<|Ag rfl<|Aa ?_
 have h:=thn_inl h x0
 refine Am rfl<|AJ hb0 Tryz.func103 rfl rfl ?_
 cases h
 exact j0.gv
 refine Ap (Ai rfl)<|Ap (Ai rfl)<|Ap (Be 1 (d0.toNat) rfl t0 rfl y0 z0)<|Ap (AA rfl (A0 0 _ rfl))<|Ap (Ai rfl)<|Ap (FV.geq (i:=q0) (j:=a2) rfl rfl)<|AO rfl rfl<|Aa<|AW rfl h (fun Q0 h=>?_) (fun Q0 h=>?_)
 refine Ae<|Ag rfl<|Aa ?_
 have h:=thn_inl h x0
 refine Am rfl<|AJ hb0 Tryz.func103 rfl rfl ?_
 cases h
 exact j0.gv
 refine Ao<|Aw<|Ac rfl<|Ac rfl<|Ac rfl<|Ab (Be 1 (d0.toNat) rfl t0 rfl y0 z0)<|AS rfl (A0 0 _ rfl) ?_
 obtain ⟨V1,J1,h⟩:=bi h
 obtain ⟨u1,K1⟩:=idx_in J1
 obtain ⟨H0,g2,u0,F0,W0,D1,q2⟩:=St.nth (α:=Bool) j0 .hd s0 K1
 obtain ⟨J0,j2,D0⟩:=BH (α:=Bool) j0 .hd F0
 obtain rfl:H0 = ⟨J0,0,none⟩:=by rw [D0] at u0; cases u0; rfl
 have p1:W0 = [.bool V1]:=D1; subst p1
 refine Ab (Be 1 (q0.toNat) rfl u0 rfl u1 F0) ?_
 obtain ⟨X1,Q1,h⟩:=bi h
 refine RG.acts' .plain (Acts.set (α:=Bool) (i:=q0.toNat) Q1 j0 D0 (fun _=>.hd) s0 rfl rfl rfl rfl rfl (by kernel_rfl)) (fun u2 ⟨X0,c1,d1,j1⟩=>?_)
 refine Aa<|AF<|Aw<|Ac rfl ?_
 obtain ⟨R1,F1,h⟩:=bi h
 refine Ab (BT (i:=d0) (j:=1) rfl rfl F1)<|Ag rfl<|Aa ?_
 exact Z0 (R1,X1,X0) _ _ ⟨rfl,rfl,rfl,rfl,rfl,trivial⟩ ⟨c1,(Tt g1 d1),j1⟩ h
 refine Bd rfl ?_
 have h:=thn_inr h x0
 try dsimp only at h
 refine Ak<|Ae<|Ag rfl<|Aa<|AB ?_
 obtain ⟨t2,B1,E0⟩:=thn_in h
 refine Bp (α:=Int) (fun g0=>[(2,vI a2),(7,(.slice (some ⟨b8,0,none⟩) a2.toNat a2.toNat)),(9,vI g0)]) (fun g0 B0=>St w B0 [.row w.heap.size 4 (Rep.size Bool) (.slice (some ⟨b8,0,none⟩) a2.toNat a2.toNat) b0.length c0]∧Tr p0 [.row w.heap.size 4 (Rep.size Bool) (.slice (some ⟨b8,0,none⟩) a2.toNat a2.toNat) b0.length c0] B0 [.row w.heap.size 4 (Rep.size Bool) (.slice (some ⟨b8,0,none⟩) a2.toNat a2.toNat) b0.length c0]) (fun g0=>g0) 0 B1 ⟨rfl,rfl,rfl,trivial⟩ ⟨j0,AN _ _⟩ ?_
 rintro b2 g0 B0 b1 ⟨k0,C0⟩ h
 unfold wardmoteref22_fits_l1 at h
 try dsimp only at h
 refine Ak<|Ae<|Ac rfl<|Ac rfl<|Ab (BF (i:=g0) (j:=a2) rfl rfl)<|Aa<|AW rfl h (fun R0 h=>?_) (fun R0 h=>?_)
 refine Ao<|Ak<|AB<|Ae<|Ac rfl<|Ac rfl ?_
 obtain ⟨W1,M1,h⟩:=bi h
 obtain ⟨v1,P1⟩:=idx_in M1
 have z1:=Al s0 C0
 obtain ⟨I0,k2,v0,G0,Y0,E1,y1⟩:=St.nth (α:=Bool) k0 .hd z1 P1
 obtain ⟨K0,p2,q1⟩:=BH (α:=Bool) k0 .hd G0
 obtain rfl:I0 = ⟨K0,0,none⟩:=by rw [q1] at v0; cases v0; rfl
 have s1:Y0 = [.bool W1]:=E1; subst s1
 refine Ab (Be 1 (g0.toNat) rfl v0 rfl v1 G0)<|AS rfl (y1 0 _ rfl)<|Ab (Ba rfl)<|Aa<|BS rfl h (fun U0 h=>?_) (fun U0 h=>?_)
 refine Ao<|AF<|Aw<|Ac rfl ?_
 obtain ⟨U1,G1,h⟩:=bi h
 refine Ab (BT (i:=g0) (j:=1) rfl rfl G1)<|Ag rfl<|Aa ?_
 exact b1 U1 _ _ ⟨rfl,rfl,rfl,trivial⟩ ⟨k0,C0⟩ h
 refine Ae<|Ag rfl<|Aa ?_
 have h:=thn_inl h E0
 refine Am rfl<|AJ hb0 Tryz.func103 rfl rfl ?_
 cases h
 exact k0.gv
 refine Bd rfl ?_
 have h:=thn_inr h E0
 try dsimp only at h
 refine Ae<|Ag rfl<|Aa<|Am rfl<|AJ hb0 Tryz.func103 rfl rfl ?_
 cases h
 exact k0.gv
 refine Ae<|Ag rfl<|Aa<|Am rfl<|AJ hb0 Tryz.func103 rfl rfl ?_
 cases h
 exact hS0.gv
theorem body102:bodyB Tryz.prog 102 = true:=by kernel_rfl
theorem body103:bodyB Tryz.prog 103 = true:=by kernel_rfl
def wardmoteref22_Check_p (n:Nat) (a0:TRoll) (a1:List Int) (a2:Int):Option Int:=
  (wardmoteref22_counted_p n a0 a2).bind fun y6=>(if y6 = 0 then (wardmoteref22_Land_p n a0).bind fun y8=>(wardmoteref22_fits_p n a1 y8 a2).bind fun y9=>(if y9 = true then some (0:Int) else some (220:Int)) else some y6)
theorem wardmoteref22_Check_c (n:Nat) (L:List Nat) (w:World) (hL:∀ b ∈ L,b < w.heap.size) (a0:TRoll) {v0_3:Value} (h0_3:Rep.R w L [v0_3] a0.fUnits) (a1:List Int) {v1_0:Value} (h1_0:Rep.R w L [v1_0] a1) (a2:Int)  {r:Int} (h:wardmoteref22_Check_p n a0 a1 a2 = some r) :
    Calls Tryz.prog 79 #[.agg #[vI a0.fGroups,vI a0.fParties,vI a0.fLevels,v0_3],v1_0,vI a2] w (Gives w fun _ u=>u = vI r):=by
 unfold wardmoteref22_Check_p at h
 have hS0:=AK w
 refine AM Tryz.func79 rfl rfl rfl (fun _ cs0 hb0=>?_)
 refine Ae<|Az .plain rfl (AI hS0 rfl rfl) (fun w2 b5 hS3 hT4=>?_)
 refine Ag rfl<|Aa<|Ak<|Ae<|Ab (AG rfl (hS3.memA .hd))<|Ac rfl ?_
 obtain ⟨y6,hy6,h⟩:=bi h
 refine BE (vI y6) body102 rfl (e2 rfl rfl) (fun w9 hw9=>wardmoteref22_counted_c n _ w9 (hS3.hL0 hL hw9) a0 (hS3.k0 h0_3 hw9) a2 hy6) rfl<|Ag rfl<|Aa<|Ae<|Ac rfl<|Ab (BO (i:=y6) (j:=0) rfl rfl)<|Aa<|BV rfl h (fun c7 h=>?_) (fun c7 h=>?_)
 refine Ao<|Ak<|Ae<|Ac rfl<|Ab (AG rfl (hS3.memA .hd)) ?_
 obtain ⟨y8,hy8,h⟩:=bi h
 refine BE (vI y8) body77 rfl (e1 rfl) (fun w9 hw9=>wardmoteref22_Land_c n _ w9 (hS3.hL0 hL hw9) a0 (hS3.k0 h0_3 hw9) hy8) rfl<|Ac rfl ?_
 obtain ⟨y9,hy9,h⟩:=bi h
 refine BE (.bool y9) body103 rfl (e3 rfl rfl rfl) (fun w9 hw9=>wardmoteref22_fits_c n _ w9 (hS3.hL0 hL hw9) a1 (hS3.k0 h1_0 hw9) y8 a2 hy9) rfl<|Ab (Ba rfl)<|Aa<|BS rfl h (fun b0 h=>?_) (fun b0 h=>?_)
 refine Ao<|Ae<|Ag rfl<|Aa<|Am rfl<|AJ hb0 Tryz.func79 rfl rfl ?_
 cases h
 exact hS3.gv
 refine Ae<|Ag rfl<|Aa<|Am rfl<|AJ hb0 Tryz.func79 rfl rfl ?_
 cases h
 exact hS3.gv
 refine Ae<|Ac rfl<|Ag rfl<|Aa<|Am rfl<|AJ hb0 Tryz.func79 rfl rfl ?_
 cases h
 exact hS3.gv
def tb55_8:List (Nat × Nat × Nat):=[(0,67108864,512),(0,134217728,2),(0,268435456,1024),(6,536870912,402653184),(8,1073741824,536870912),(0,2147483648,512),(0,4294967296,2),(0,8589934592,1024),(192,17179869184,12884901888),(256,34359738368,17179869184),(544,68719476736,36507222016),(1024,137438953472,68719476736),(0,274877906944,8),(4096,549755813888,274877906944),(0,1099511627776,1024),(24576,2199023255552,1649267441664),(32768,4398046511104,2199023255552),(65536,8796093022208,4398046511104),(133120,17592186044416,8933531975680),(524287,35184372088832,1140850688),(1048575,0,52776558133248)]
theorem body79:bodyB Tryz.prog 79 = true:=by kernel_rfl
def wardmoteref22_Totals_l1 (_n:Nat) (a1:List Int) (a0:TRoll) (g0:Nat × (List Int) → Option (List Int)):Nat × (List Int) → Option (List Int)
  | (b0,c0)=>(if b0 < a1.length then (a1[b0]?).bind fun d0=>(idx c0 d0).bind fun k0=>(a0.fUnits[b0]?).bind fun p0=>(chk (k0 + p0.fPeople)).bind fun j0=>(put c0 ((d0.toNat:Nat):Int) j0).bind fun q0=>g0 (b0 + 1,q0) else some c0)
def wardmoteref22_Totals_p (n:Nat) (a0:TRoll) (a1:List Int) (a2:Int):Option ((List Int) × Int):=
  (wardmoteref22_Check_p n a0 a1 a2).bind fun y6=>(if y6 = 0 then (mk a2 (0:Int)).bind fun xs9=>Option.bind (loopF (wardmoteref22_Totals_l1 n a1 a0) n (0,xs9)) (fun b0=>some (b0,(0:Int))) else some (([]:List Int),y6))
theorem wardmoteref22_Totals_c (n:Nat) (L:List Nat) (w:World) (hL:∀ b ∈ L,b < w.heap.size) (a0:TRoll) {v0_3:Value} (h0_3:Rep.R w L [v0_3] a0.fUnits) (a1:List Int) {v1_0:Value} (h1_0:Rep.R w L [v1_0] a1) (a2:Int)  {r:(List Int) × Int} (h:wardmoteref22_Totals_p n a0 a1 a2 = some r) :
    Calls Tryz.prog 55 #[.agg #[vI a0.fGroups,vI a0.fParties,vI a0.fLevels,v0_3],v1_0,vI a2] w (Gives w fun w' u=>∃ v0_0:Value,u = .tuple #[v0_0,vI r.2]∧Rep.R w' L [v0_0] r.1):=by
 unfold wardmoteref22_Totals_p at h
 have hS0:=AK w
 refine AM Tryz.func55 rfl rfl rfl (fun _ cs0 hb0=>?_)
 refine Ae<|Az .plain rfl (AI hS0 rfl rfl) (fun w2 b5 hS3 hT4=>?_)
 refine Ag rfl<|Ag rfl<|Aa<|Ak<|Ae<|Ab (AG rfl (hS3.memA .hd))<|Ac rfl<|Ac rfl ?_
 obtain ⟨y6,hy6,h⟩:=bi h
 refine BE (vI y6) body79 rfl (e3 rfl rfl rfl) (fun w9 hw9=>wardmoteref22_Check_c n _ w9 (hS3.hL0 hL hw9) a0 (hS3.k0 h0_3 hw9) a1 (hS3.k0 h1_0 hw9) a2 hy6) rfl<|Ag rfl<|Aa<|Ae<|Ac rfl<|Ab (BO (i:=y6) (j:=0) rfl rfl)<|Aa<|BV rfl h (fun c7 h=>?_) (fun c7 h=>?_)
 refine Ao<|Ae<|Ac rfl ?_
 obtain ⟨xs9,hxs9,h⟩:=bi h
 refine Az .plain rfl (Does.mk (α:=Int) hxs9 hS3 el42 rfl) (fun E1 p0 A0 U1=>?_)
 have W0:=Ar (cs:=(List.replicate a2.toNat [vI 0]).flatten) (xs:=xs9) A0 L (Cells.mk hxs9 rfl)
 refine Ag rfl<|Aa<|Ak<|Ae<|Ag rfl<|Aa<|AB ?_
 obtain ⟨b2,p1,c1⟩:=bind_in2 h
 refine Bp (α:=Nat × (List Int) × (List Value)) (fun ⟨d0,j0,q0⟩=>[(1,v1_0),(3,vP b5),(9,(.slice (some ⟨p0,0,none⟩) a2.toNat a2.toNat)),(10,vI ((d0:Nat):Int))]) (fun ⟨d0,j0,q0⟩ t0=>St w t0 [.row w.heap.size 3 (Rep.size Int) (.slice (some ⟨p0,0,none⟩) a2.toNat a2.toNat) j0.length q0,.cells b5 [vI a0.fGroups,vI a0.fParties,vI a0.fLevels,v0_3] 41]∧Tr E1 [.row w.heap.size 3 (Rep.size Int) (.slice (some ⟨p0,0,none⟩) a2.toNat a2.toNat) xs9.length ((List.replicate a2.toNat [vI 0]).flatten),.cells b5 [vI a0.fGroups,vI a0.fParties,vI a0.fLevels,v0_3] 41] t0 [.row w.heap.size 3 (Rep.size Int) (.slice (some ⟨p0,0,none⟩) a2.toNat a2.toNat) j0.length q0,.cells b5 [vI a0.fGroups,vI a0.fParties,vI a0.fLevels,v0_3] 41]∧Cells t0 (bl [.row w.heap.size 3 (Rep.size Int) (.slice (some ⟨p0,0,none⟩) a2.toNat a2.toNat) j0.length q0,.cells b5 [vI a0.fGroups,vI a0.fParties,vI a0.fLevels,v0_3] 41] ++ L) q0 j0) (fun ⟨d0,j0,q0⟩=>(d0,j0)) (0,xs9,(List.replicate a2.toNat [vI 0]).flatten) p1 ⟨rfl,rfl,rfl,rfl,trivial⟩ ⟨A0,AN _ _,W0⟩ ?_
 rintro J1 ⟨d0,j0,q0⟩ t0 Q0 ⟨g0,U0,x0⟩ h
 unfold wardmoteref22_Totals_l1 at h
 try dsimp only at h
 refine Ak<|Ae<|Ac rfl<|Ac rfl ?_
 have z0:=Ax h1_0 g0
 have W1:a1.length ≤ 281474976710656:=AZ z0
 refine Ab (Bj (xs:=a1) Tryz.underlying43 rfl z0)<|Ab (BA (i:=d0) (j:=a1.length) rfl rfl)<|Aa<|AW rfl h (fun J0 h=>?_) (fun J0 h=>?_)
 refine Ao<|Ak<|AB<|Bm 20 tb55_8 (by kernel_rfl) (by kernel_rfl) (by kernel_rfl) (fun b0 c0=>?_)
 refine Ah 0 1 b0 rfl c0 (fun _=>Ai rfl) rfl<|Ah 1 3 b0 rfl c0 (fun _=>Ai rfl) rfl<|Ah 2 7 b0 rfl c0 (fun _=>Ai rfl) rfl ?_
 obtain ⟨u0,z1,h⟩:=bi h
 obtain ⟨H1,K1,B0,E0,K0,q1,F0⟩:=Bb z0 z1
 have Y0:K0 = [vI u0]:=q1; subst Y0
 refine Ah 3 15 b0 rfl c0 (fun _=>Be 1 d0 rfl B0 rfl rfl E0) rfl<|AT 4 31 1572864 b0 rfl c0 (AA rfl (F0 0 _ rfl)) rfl<|Ah 5 63 b0 rfl c0 (fun _=>Ai rfl) rfl<|Ah 6 127 b0 rfl c0 (fun _=>Ai rfl) rfl<|Ah 7 255 b0 rfl c0 (fun _=>Ai rfl) rfl<|Ah 8 511 b0 rfl c0 (fun _=>Be 1 d0 rfl B0 rfl rfl E0) rfl<|AT 9 1023 1838080 b0 rfl c0 (AA rfl (F0 0 _ rfl)) rfl ?_
 obtain ⟨G0,A1,h⟩:=bi h
 obtain ⟨D0,B1⟩:=idx_in A1
 obtain ⟨H0,M1,s0,y0,M0,s1,g1⟩:=St.nth (α:=Int) g0 .hd x0 B1
 obtain ⟨I0,P1,C0⟩:=BH (α:=Int) g0 .hd y0
 obtain rfl:H0 = ⟨I0,0,none⟩:=by rw [C0] at s0; cases s0; rfl
 have Z0:M0 = [vI G0]:=s1; subst Z0
 refine Ah 10 2047 b0 rfl c0 (fun _=>Be 1 (u0.toNat) rfl s0 rfl D0 y0) rfl<|AT 11 4095 1835008 b0 rfl c0 (AA rfl (g1 0 _ rfl)) rfl<|Ah 12 8191 b0 rfl c0 (fun _=>Bt 3 rfl) rfl<|AT 13 16383 2064384 b0 rfl c0 (AA rfl ((g0.memA (.tl .hd)) 3 _ rfl)) rfl<|Ah 14 32767 b0 rfl c0 (fun _=>Ai rfl) rfl ?_
 obtain ⟨F1,C1,h⟩:=bi h
 have k1:=Ax h0_3 g0
 obtain ⟨I1,Q1,b1,d1,R1,t1,j1⟩:=Bb k1 C1
 obtain ⟨d2,g2,j2,rfl,X1,Y1,Z1⟩:=op_TUnit t1
 refine Ah 15 65535 b0 rfl c0 (fun _=>Be 6 d0 rfl b1 rfl rfl d1) rfl<|Ah 16 131071 b0 rfl c0 (fun _=>Bt 1 rfl) rfl<|AT 17 262143 1835008 b0 rfl c0 (AA rfl (j1 1 _ rfl)) rfl ?_
 obtain ⟨c2,y1,h⟩:=bi h
 refine Ah 18 524287 b0 rfl c0 (fun _=>BT (i:=G0) (j:=F1.fPeople) rfl rfl y1) rfl<|Ah 19 1048575 b0 rfl c0 (fun _=>Be 1 (u0.toNat) rfl s0 rfl D0 y0) rfl ?_
 obtain ⟨G1,D1,h⟩:=bi h
 refine BD (i:=20) (readyD_ok b0 (by kernel_rfl)) (RO.acts (m' :=2097151) (stepC_ok b0 (by kernel_rfl)) rfl rfl .plain (Acts.set (α:=Int) (i:=u0.toNat) D1 g0 C0 (fun _=>.hd) x0 rfl rfl rfl rfl rfl (by kernel_rfl)) (fun k2 ⟨P0,R0,V0,X0⟩=>?_))
 refine Bc (doneD_ok b0 (by kernel_rfl))<|AF<|Aw<|Ac rfl<|Ab (Bu (i:=d0) (j:=1) rfl rfl (by omega))<|Ag rfl<|Aa ?_
 exact Q0 (d0 + 1,G1,P0) _ _ ⟨rfl,rfl,rfl,rfl,trivial⟩ ⟨R0,(Tt U0 V0),X0⟩ h
 refine Bd rfl ?_
 have h:=c1 _ h
 try dsimp only at h
 refine Ae<|Ac rfl<|Ag rfl<|Ag rfl<|Aa<|Am rfl ?_
 have u1:=AQ (α:=Int) g0 .hd x0 hL
 have v0:=Bf g0 .hd
 have V1:=Bg g0 .hd
 have v1:=Bh (α:=Int) (v:=(.slice (some ⟨p0,0,none⟩) a2.toNat a2.toNat)) (xs:=j0) v0 L u1
 refine Ay hb0 Tryz.func55 rfl (.cons (.tmp rfl) (.cons (.tmp rfl) .nil)) rfl ?_
 cases h
 exact ⟨v0.ag,fun w9 hw9=>⟨(.slice (some ⟨p0,0,none⟩) a2.toNat a2.toNat),rfl,v0.kd v1 hw9⟩⟩
 refine Ae<|Ac rfl<|Ag rfl<|Ag rfl<|Aa<|Am rfl ?_
 have x1:=AL (α:=Int) hS3 L
 refine Ay hb0 Tryz.func55 rfl (.cons (.tmp rfl) (.cons (.tmp rfl) .nil)) rfl ?_
 cases h
 exact ⟨hS3.ag,fun w9 hw9=>⟨vN,rfl,hS3.kd x1 hw9⟩⟩
theorem body54:bodyB Tryz.prog 54 = true:=by kernel_rfl
theorem body55:bodyB Tryz.prog 55 = true:=by kernel_rfl
def wardmoteref26_Start_p (n:Nat) (a0:TGraph) (a1:TRoll) (a2:List Int) (a3:Int):Option (TSession × Int):=
  (wardmoteref25_Check_p n a0 a1 a2 a3).bind fun b0=>(if b0 = 0 then (wardmoteref22_Totals_p n a1 a2 a3).bind fun c0=>some ((⟨a3,a2,c0.1,([]:List TMove),([]:List TMove)⟩:TSession),(0:Int)) else some ((⟨(0:Int),([]:List Int),([]:List Int),([]:List TMove),([]:List TMove)⟩:TSession),b0))
theorem wardmoteref26_Start_c (n:Nat) (L:List Nat) (w:World) (hL:∀ b ∈ L,b < w.heap.size) (a0:TGraph) {v0_1:Value} (h0_1:Rep.R w L [v0_1] a0.fEdges) (a1:TRoll) {v1_3:Value} (h1_3:Rep.R w L [v1_3] a1.fUnits) (a2:List Int) {v2_0:Value} (h2_0:Rep.R w L [v2_0] a2) (a3:Int)  {r:TSession × Int} (h:wardmoteref26_Start_p n a0 a1 a2 a3 = some r) :
    Calls Tryz.prog 36 #[.agg #[vI a0.fN,v0_1],.agg #[vI a1.fGroups,vI a1.fParties,vI a1.fLevels,v1_3],v2_0,vI a3] w (Gives w fun w' u=>∃ v0_1 v0_2 v0_3 v0_4:Value,u = .tuple #[.agg #[vI r.1.fK,v0_1,v0_2,v0_3,v0_4],vI r.2]∧Rep.R w' L [v0_1] r.1.fPlan∧Rep.R w' L [v0_2] r.1.fTotals∧Rep.R w' L [v0_3] r.1.fDone∧Rep.R w' L [v0_4] r.1.fUndone):=by
 unfold wardmoteref26_Start_p at h
 have hS0:=AK w
 refine AM Tryz.func36 rfl rfl rfl (fun _ cs0 hb0=>?_)
 refine Ae<|Az .plain rfl (AI hS0 rfl rfl) (fun w2 b5 hS3 hT4=>?_)
 refine Az .plain rfl (AI hS3 rfl rfl) (fun w7 H0 hS8 hT9=>?_)
 refine Az .plain rfl (AX [vI 0,vN,vN,vN,vN] hS8) (fun U0 I0 b0 M0=>?_)
 refine Ag rfl<|Aa<|Ak<|Ae<|Ab (AG rfl (b0.memA (.tl (.tl .hd))))<|Ab (AG rfl (b0.memA (.tl .hd)))<|Ac rfl<|Ac rfl ?_
 obtain ⟨v0,D0,h⟩:=bi h
 refine BE (vI v0) body54 rfl (e4 rfl rfl rfl rfl) (fun w9 hw9=>wardmoteref25_Check_c n _ w9 (b0.hL0 hL hw9) a0 (b0.k0 h0_1 hw9) a1 (b0.k0 h1_3 hw9) a2 (b0.k0 h2_0 hw9) a3 D0) rfl<|Ag rfl<|Aa<|Ae<|Ac rfl<|Ab (BO (i:=v0) (j:=0) rfl rfl)<|Aa<|BV rfl h (fun x0 h=>?_) (fun x0 h=>?_)
 refine Ao<|Ae<|Ab (AG rfl (b0.memA (.tl .hd)))<|Ac rfl<|Ac rfl ?_
 obtain ⟨Y0,E0,h⟩:=bi h
 refine Bx (fst:=[]) (cap:=[]) .plain body55 rfl (e3 rfl rfl rfl) (fun w9 hw9=>wardmoteref22_Totals_c n _ w9 (b0.hL hL hw9) a1 (b0.km h1_3 hw9) a2 (b0.km h2_0 hw9) a3 E0) rfl (fun V0 R0 z0 ⟨g0,hu_,j0⟩=>?_)
 subst hu_
 obtain ⟨p0,P0⟩:=b0.agr z0
 refine Ac rfl<|Ab (Au rfl rfl)<|Ab (Au rfl rfl)<|Ag rfl<|Ag rfl<|Aa<|Ae<|Ac rfl<|Ac rfl<|Ac rfl ?_
 have q0:=Ax h2_0 p0
 obtain ⟨F0,J0,B0,_⟩:=BQ q0
 obtain ⟨G0,K0,C0,_⟩:=BQ j0
 refine Ab (AV (vs:=[vI a3,v2_0,g0]) (u:=.agg #[vI a3,v2_0,g0,vN,vN]) (e3 rfl rfl rfl) (fun w9=>by rw [B0,C0]; try kernel_rfl))<|Bk [vI a3,v2_0,g0,vN,vN] p0 .hd (o5 rfl (AP q0) (AP j0) rfl rfl) (fun W0 d0 y0=>?_)
 refine Ag rfl<|Aa<|Am rfl ?_
 have s0:=AL (α:=TMove) d0 L
 refine Ay hb0 Tryz.func36 rfl (.cons (.many (cs:=[vI a3,v2_0,g0,vN,vN]) (by kernel_rfl) rfl (d0.memA .hd)) (.cons (.tmp rfl) .nil)) rfl ?_
 cases h
 have A0:=Aj j0 y0
 exact ⟨d0.ag,fun w9 hw9=>⟨v2_0,g0,vN,vN,rfl,d0.k0 h2_0 hw9,d0.kd A0 hw9,d0.kd s0 hw9,d0.kd s0 hw9⟩⟩
 refine Ae<|Ab (AV (vs:=[]) (u:=.agg #[vI 0,vN,vN,vN,vN]) evs_nil (fun w9=>by kernel_rfl))<|Ac rfl<|Bk [vI 0,vN,vN,vN,vN] b0 .hd (onesB rfl) (fun X0 c0 Q0=>?_)
 refine Ag rfl<|Aa<|Am rfl ?_
 have t0:=AL (α:=Int) c0 L
 have u0:=AL (α:=TMove) c0 L
 refine Ay hb0 Tryz.func36 rfl (.cons (.many (cs:=[vI 0,vN,vN,vN,vN]) (by kernel_rfl) rfl (c0.memA .hd)) (.cons (.tmp rfl) .nil)) rfl ?_
 cases h
 exact ⟨c0.ag,fun w9 hw9=>⟨vN,vN,vN,vN,rfl,c0.kd t0 hw9,c0.kd t0 hw9,c0.kd u0 hw9,c0.kd u0 hw9⟩⟩
def wardmoteref26_put_l1 (_n:Nat) (c0:List Int) (a2:Int) (d0:Nat → Option (((List Int) × Bool) ⊕ Unit)):Nat → Option (((List Int) × Bool) ⊕ Unit)
  | b0=>(if b0 < c0.length then (c0[b0]?).bind fun g0=>(if g0 = a2 then some (.inl (c0,true)) else d0 (b0 + 1)) else some (.inr ()))
def wardmoteref26_put_p (n:Nat) (a0:List Int) (a1:Int) (a2:Int) (a3:Int):Option ((List Int) × Bool):=
  (idx a0 a1).bind fun x1=>(if x1 = a2 then (app ([]:List Int) a0).bind fun b0=>(idx b0 a1).bind fun d0=>(put b0 ((a1.toNat:Nat):Int) a3).bind fun c0=>thn (loopF (wardmoteref26_put_l1 n c0 a2) n 0) (fun _=>some (([]:List Int),false)) else some (([]:List Int),false))
theorem wardmoteref26_put_c (n:Nat) (L:List Nat) (w:World) (hL:∀ b ∈ L,b < w.heap.size) (a0:List Int) {v0_0:Value} (h0_0:Rep.R w L [v0_0] a0) (a1:Int) (a2:Int) (a3:Int)  {r:(List Int) × Bool} (h:wardmoteref26_put_p n a0 a1 a2 a3 = some r) :
    Calls Tryz.prog 43 #[v0_0,vI a1,vI a2,vI a3] w (Gives w fun w' u=>∃ v0_0:Value,u = .tuple #[v0_0,.bool r.2]∧Rep.R w' L [v0_0] r.1):=by
 unfold wardmoteref26_put_p at h
 have hS0:=AK w
 refine AM Tryz.func43 rfl rfl rfl (fun _ cs0 hb0=>?_)
 refine Ae<|Ag rfl<|Ag rfl<|Aa<|Ak<|Ae<|Ac rfl<|Ac rfl ?_
 obtain ⟨x1,hx1,h⟩:=bi h
 obtain ⟨hi2,hx3⟩:=idx_in hx1
 obtain ⟨A4,c5,he6,hk7,cs8,hr9,d1⟩:=Bb h0_0 hx3
 have W0:cs8 = [vI x1]:=hr9; subst W0
 refine Ab (Be 1 (a1.toNat) rfl he6 rfl hi2 hk7)<|AS rfl (d1 0 _ rfl)<|Ac rfl<|Ab (BO (i:=x1) (j:=a2) rfl rfl)<|Aa<|BV rfl h (fun I0 h=>?_) (fun I0 h=>?_)
 refine Ao<|Ae<|Ag rfl<|Aa<|Ae<|Ac rfl<|Ac rfl ?_
 have k0:=hS0.nilRow 3 (Rep.size Int)
 have R1:=St.nilRowT hS0 3 (Rep.size Int)
 have U0:=Ar (cs:=[]) (xs:=([]:List Int)) k0 L (AC _ _)
 obtain ⟨b2,B1,h⟩:=bi h
 have g1:=Ax h0_0 k0
 refine RG.doesL .plain rfl (AR (α:=Int) (ys:=a0) B1 k0 (fun _ _=>.hd) el43 rfl rfl U0 (Bw g1)) (fun d0 Z1 ⟨P1,p0,U1,x0⟩=>?_)
 refine Ag rfl<|Aa<|Ae<|Ac rfl<|Ac rfl<|Ac rfl ?_
 obtain ⟨E1,y1,h⟩:=bi h
 obtain ⟨c1,z1⟩:=idx_in y1
 obtain ⟨E0,H1,s0,A0,M0,t1,X1⟩:=St.nth (α:=Int) p0 .hd x0 z1
 obtain ⟨G0,I1,y0⟩:=BH (α:=Int) p0 .hd A0
 obtain rfl:E0 = ⟨G0,0,none⟩:=by rw [y0] at s0; cases s0; rfl
 have X0:M0 = [vI E1]:=t1; subst X0
 refine Ab (Be 1 (a1.toNat) rfl s0 rfl c1 A0) ?_
 obtain ⟨g0,C1,h⟩:=bi h
 refine RG.acts' .plain (Acts.set (α:=Int) (i:=a1.toNat) C1 p0 y0 (fun _=>.hd) x0 rfl rfl rfl rfl rfl (by kernel_rfl)) (fun D1 ⟨j0,R0,V1,V0⟩=>?_)
 refine Aa<|Ak<|Ae<|Ag rfl<|Aa<|AB ?_
 obtain ⟨Y1,k1,z0⟩:=thn_in h
 refine Bp (α:=Nat) (fun c0=>[(2,vI a2),(10,d0),(11,vI ((c0:Nat):Int))]) (fun c0 u0=>St w u0 [.row w.heap.size 3 (Rep.size Int) d0 g0.length j0]∧Tr D1 [.row w.heap.size 3 (Rep.size Int) d0 g0.length j0] u0 [.row w.heap.size 3 (Rep.size Int) d0 g0.length j0]) (fun c0=>c0) 0 k1 ⟨rfl,rfl,rfl,trivial⟩ ⟨R0,AN _ _⟩ ?_
 rintro G1 c0 u0 Q0 ⟨b0,v0⟩ h
 unfold wardmoteref26_put_l1 at h
 try dsimp only at h
 refine Ak<|Ae<|Ac rfl<|Ac rfl ?_
 have W1:g0.length ≤ 4294967296:=St.rowLe (α:=Int) b0 .hd
 obtain ⟨F1,J1,Y0⟩:=St.rowV (α:=Int) b0 .hd
 refine Ab (FV.lenV Tryz.underlying43 rfl Y0)<|Ab (BA (i:=c0) (j:=g0.length) rfl rfl)<|Aa<|AW rfl h (fun J0 h=>?_) (fun J0 h=>?_)
 refine Ao<|Ak<|AB<|Ae<|Ac rfl<|Ac rfl ?_
 obtain ⟨D0,A1,h⟩:=bi h
 have C0:=Al V0 v0
 obtain ⟨F0,K1,t0,B0,P0,u1,j1⟩:=St.nth (α:=Int) b0 .hd C0 A1
 obtain ⟨H0,M1,Z0⟩:=BH (α:=Int) b0 .hd B0
 obtain rfl:F0 = ⟨H0,0,none⟩:=by rw [Z0] at t0; cases t0; rfl
 have b1:P0 = [vI D0]:=u1; subst b1
 refine Ab (Be 1 c0 rfl t0 rfl rfl B0)<|AS rfl (j1 0 _ rfl)<|Ac rfl<|Ab (FV.eql (i:=D0) (j:=a2) rfl rfl)<|Aa<|AW rfl h (fun K0 h=>?_) (fun K0 h=>?_)
 refine Ae<|Ac rfl<|Ag rfl<|Ag rfl<|Aa ?_
 have h:=thn_inl h z0
 refine Am rfl ?_
 have v1:=AQ (α:=Int) b0 .hd C0 hL
 have q0:=Bf b0 .hd
 have Q1:=Bg b0 .hd
 have p1:=Bh (α:=Int) (v:=d0) (xs:=g0) q0 L v1
 refine Ay hb0 Tryz.func43 rfl (.cons (.tmp rfl) (.cons (.tmp rfl) .nil)) rfl ?_
 cases h
 exact ⟨q0.ag,fun w9 hw9=>⟨d0,rfl,q0.kd p1 hw9⟩⟩
 refine Ao<|AF<|Aw<|Ac rfl<|Ab (Bu (i:=c0) (j:=1) rfl rfl (by omega))<|Ag rfl<|Aa ?_
 exact Q0 (c0 + 1) _ _ ⟨rfl,rfl,rfl,trivial⟩ ⟨b0,v0⟩ h
 refine Bd rfl ?_
 have h:=thn_inr h z0
 try dsimp only at h
 refine Ae<|Ag rfl<|Ag rfl<|Aa<|Am rfl ?_
 have q1:=AL (α:=Int) b0 L
 refine Ay hb0 Tryz.func43 rfl (.cons (.tmp rfl) (.cons (.tmp rfl) .nil)) rfl ?_
 cases h
 exact ⟨b0.ag,fun w9 hw9=>⟨vN,rfl,b0.kd q1 hw9⟩⟩
 refine Ae<|Ag rfl<|Ag rfl<|Aa<|Am rfl ?_
 have s1:=AL (α:=Int) hS0 L
 refine Ay hb0 Tryz.func43 rfl (.cons (.tmp rfl) (.cons (.tmp rfl) .nil)) rfl ?_
 cases h
 exact ⟨hS0.ag,fun w9 hw9=>⟨vN,rfl,hS0.kd s1 hw9⟩⟩
def wardmoteref26_steps_l1 (_n:Nat) (a0:List TMove) (a1:Int) (a2:Int) (g0:Nat → Option (Bool ⊕ Unit)):Nat → Option (Bool ⊕ Unit)
  | d0=>(if d0 < a0.length then (a0[d0]?).bind fun b0=>jn (fun j0=>(if j0 = true then some (.inl false) else g0 (d0 + 1))) (fun c0=>(if b0.fUnit < 0 then c0 true else (if a1 ≤ b0.fUnit then c0 true else (if b0.fFrom < 0 then c0 true else (if a2 ≤ b0.fFrom then c0 true else (if b0.fTo < 0 then c0 true else (if a2 ≤ b0.fTo then c0 true else c0 (decide (b0.fFrom = b0.fTo))))))))) else some (.inr ()))
def wardmoteref26_steps_p (n:Nat) (a0:List TMove) (a1:Int) (a2:Int):Option Bool:=
  thn (loopF (wardmoteref26_steps_l1 n a0 a1 a2) n 0) (fun _=>some (decide (a0.length ≤ 200)))
theorem wardmoteref26_steps_c (n:Nat) (L:List Nat) (w:World) (_hL:∀ b ∈ L,b < w.heap.size) (a0:List TMove) {v0_0:Value} (h0_0:Rep.R w L [v0_0] a0) (a1:Int) (a2:Int)  {r:Bool} (h:wardmoteref26_steps_p n a0 a1 a2 = some r) :
    Calls Tryz.prog 56 #[v0_0,vI a1,vI a2] w (Gives w fun _ u=>u = .bool r):=by
 unfold wardmoteref26_steps_p at h
 have hS0:=AK w
 refine AM Tryz.func56 rfl rfl rfl (fun _ cs0 hb0=>?_)
 refine Ae<|Ag rfl<|Aa<|Ak<|Ae<|Ag rfl<|Aa<|AB ?_
 obtain ⟨E1,q1,u0⟩:=thn_in h
 refine Bp (α:=Nat) (fun d0=>[(0,v0_0),(1,vI a1),(2,vI a2),(7,vI ((d0:Nat):Int))]) (fun d0 q0=>St w q0 []∧Tr w [] q0 []) (fun d0=>d0) 0 q1 ⟨rfl,rfl,rfl,rfl,trivial⟩ ⟨hS0,AN _ _⟩ ?_
 rintro z1 d0 q0 F0 ⟨p0,b1⟩ h
 unfold wardmoteref26_steps_l1 at h
 try dsimp only at h
 refine Ak<|Ae<|Ac rfl<|Ac rfl ?_
 have k0:=Ax h0_0 p0
 have D1:a0.length ≤ 281474976710656:=AZ k0
 refine Ab (Bj (xs:=a0) Tryz.underlying46 rfl k0)<|Ab (BA (i:=d0) (j:=a0.length) rfl rfl)<|Aa<|AW rfl h (fun D0 h=>?_) (fun D0 h=>?_)
 refine Ao<|Ak<|AB<|Ae<|Ac rfl<|Ac rfl ?_
 obtain ⟨b0,v1,h⟩:=bi h
 obtain ⟨y1,B1,j1,k1,C1,u1,p1⟩:=Bb k0 v1
 obtain rfl:=op_TMove u1
 refine Ab (Be 3 d0 rfl j1 rfl rfl k1)<|Ab (AG rfl p1)<|Az .plain rfl (AX [vI 0,vI 0,vI 0] p0) (fun F1 v0 Q0 c1=>?_)
 refine Bk [vI b0.fUnit,vI b0.fFrom,vI b0.fTo] Q0 .hd (onesB rfl) (fun x1 c0 d1=>?_)
 refine Aa<|Ak<|MX.join (α:=Bool) (fun j0=>[(0,v0_0),(1,vI a1),(2,vI a2),(7,vI ((d0:Nat):Int)),(56,.bool j0)]) (fun j0 s0=>St w s0 []∧Tr x1 [.cells v0 [vI b0.fUnit,vI b0.fFrom,vI b0.fTo] 62] s0 []) (fun j0=>j0) h ?_ ?_
 rintro j0 s0 ⟨t0,g1⟩ h
 try dsimp only at h
 refine MX.ifb rfl h (fun E0 h=>?_) (fun E0 h=>?_)
 refine Ae<|Ag rfl<|Aa ?_
 have h:=thn_inl h u0
 refine Am rfl<|AJ hb0 Tryz.func56 rfl rfl ?_
 cases h
 exact t0.gv
 refine Ao<|AF<|Aw<|Ac rfl<|Ab (Bu (i:=d0) (j:=1) rfl rfl (by omega))<|Ag rfl<|Aa ?_
 have s1:=Tt c1 (Tt d1 g1)
 exact F0 (d0 + 1) _ _ ⟨rfl,rfl,rfl,rfl,trivial⟩ ⟨t0,(Tt b1 s1)⟩ h
 intro A1 g0 h
 try dsimp only at h
 refine Aw<|AH 0 rfl<|AS rfl ((c0.memA .hd) 0 _ rfl)<|Ab (BF (i:=b0.fUnit) (j:=0) rfl rfl)<|Ac rfl<|Bi (s:=22) rfl h (fun x0 h=>?_) (fun x0 h=>?_)
 refine Af<|Af<|Af<|Af<|AU rfl rfl<|Ac rfl<|Af<|Af<|Af<|AU rfl rfl<|Ac rfl<|Af<|Af<|Af<|Af<|AU rfl rfl<|Ac rfl<|Af<|Af<|Af<|AU rfl rfl<|Ac rfl<|Af<|Af ?_
 refine Af<|Af<|AU rfl rfl<|Ac rfl<|Af<|Af<|Af<|Af<|Af<|AU rfl rfl<|Aa ?_
 obtain ⟨G0,R0⟩:=AD c0 .done
 exact g0 true _ _ ⟨rfl,rfl,rfl,rfl,rfl,trivial⟩ ⟨G0,R0⟩ h
 refine BB 0 rfl<|Ap (AA rfl ((c0.memA .hd) 0 _ rfl))<|Ap (Ai rfl)<|Ap (FV.geq (i:=b0.fUnit) (j:=a1) rfl rfl)<|AO rfl rfl<|Ac rfl<|Bi (s:=28) rfl h (fun y0 h=>?_) (fun y0 h=>?_)
 refine Af<|Af<|Af<|AU rfl rfl<|Ac rfl<|Af<|Af<|Af<|Af<|AU rfl rfl<|Ac rfl<|Af<|Af<|Af<|AU rfl rfl<|Ac rfl<|Af<|Af<|Af<|Af<|AU rfl rfl<|Ac rfl<|Af<|Af ?_
 refine Af<|Af<|Af<|AU rfl rfl<|Aa ?_
 obtain ⟨H0,U0⟩:=AD c0 .done
 exact g0 true _ _ ⟨rfl,rfl,rfl,rfl,rfl,trivial⟩ ⟨H0,U0⟩ h
 refine BB 1 rfl<|Ap (AA rfl ((c0.memA .hd) 1 _ rfl))<|Ap (BF (i:=b0.fFrom) (j:=0) rfl rfl)<|AO rfl rfl<|Ac rfl<|Bi (s:=33) rfl h (fun z0 h=>?_) (fun z0 h=>?_)
 refine Af<|Af<|Af<|Af<|AU rfl rfl<|Ac rfl<|Af<|Af<|Af<|AU rfl rfl<|Ac rfl<|Af<|Af<|Af<|Af<|AU rfl rfl<|Ac rfl<|Af<|Af<|Af<|Af<|Af<|AU rfl rfl<|Aa ?_
 obtain ⟨I0,V0⟩:=AD c0 .done
 exact g0 true _ _ ⟨rfl,rfl,rfl,rfl,rfl,trivial⟩ ⟨I0,V0⟩ h
 refine BB 1 rfl<|Ap (AA rfl ((c0.memA .hd) 1 _ rfl))<|Ap (Ai rfl)<|Ap (FV.geq (i:=b0.fFrom) (j:=a2) rfl rfl)<|AO rfl rfl<|Ac rfl<|Bi (s:=39) rfl h (fun A0 h=>?_) (fun A0 h=>?_)
 refine Af<|Af<|Af<|AU rfl rfl<|Ac rfl<|Af<|Af<|Af<|Af<|AU rfl rfl<|Ac rfl<|Af<|Af<|Af<|Af<|Af<|AU rfl rfl<|Aa ?_
 obtain ⟨J0,W0⟩:=AD c0 .done
 exact g0 true _ _ ⟨rfl,rfl,rfl,rfl,rfl,trivial⟩ ⟨J0,W0⟩ h
 refine BB 2 rfl<|Ap (AA rfl ((c0.memA .hd) 2 _ rfl))<|Ap (BF (i:=b0.fTo) (j:=0) rfl rfl)<|AO rfl rfl<|Ac rfl<|Bi (s:=44) rfl h (fun B0 h=>?_) (fun B0 h=>?_)
 refine Af<|Af<|Af<|Af<|AU rfl rfl<|Ac rfl<|Af<|Af<|Af<|Af<|Af<|AU rfl rfl<|Aa ?_
 obtain ⟨K0,X0⟩:=AD c0 .done
 exact g0 true _ _ ⟨rfl,rfl,rfl,rfl,rfl,trivial⟩ ⟨K0,X0⟩ h
 refine BB 2 rfl<|Ap (AA rfl ((c0.memA .hd) 2 _ rfl))<|Ap (Ai rfl)<|Ap (FV.geq (i:=b0.fTo) (j:=a2) rfl rfl)<|AO rfl rfl<|Ac rfl<|Bi (s:=50) rfl h (fun C0 h=>?_) (fun C0 h=>?_)
 refine Af<|Af<|Af<|Af<|Af<|AU rfl rfl<|Aa ?_
 obtain ⟨M0,Y0⟩:=AD c0 .done
 exact g0 true _ _ ⟨rfl,rfl,rfl,rfl,rfl,trivial⟩ ⟨M0,Y0⟩ h
 refine BB 1 rfl<|Ap (AA rfl ((c0.memA .hd) 1 _ rfl))<|BB 2 rfl<|Ap (AA rfl ((c0.memA .hd) 2 _ rfl))<|Ap (FV.eql (i:=b0.fFrom) (j:=b0.fTo) rfl rfl)<|AO rfl rfl<|Aa ?_
 obtain ⟨P0,Z0⟩:=AD c0 .done
 exact g0 (decide (b0.fFrom = b0.fTo)) _ _ ⟨rfl,rfl,rfl,rfl,rfl,trivial⟩ ⟨P0,Z0⟩ h
 refine Bd rfl ?_
 have h:=thn_inr h u0
 try dsimp only at h
 refine Ae<|Ac rfl<|Ab (Bj (xs:=a0) Tryz.underlying46 rfl k0)<|Ab (FV.leqN (i:=a0.length) (j:=200) rfl rfl)<|Ag rfl<|Aa<|Am rfl<|AJ hb0 Tryz.func56 rfl rfl ?_
 cases h
 exact p0.gv
theorem body43:bodyB Tryz.prog 43 = true:=by kernel_rfl
theorem body56:bodyB Tryz.prog 56 = true:=by kernel_rfl
def wardmoteref26_Check_l1 (n:Nat) (a2:TSession) (g0:(List Int) × Int → Option (Int ⊕ Unit)):(List Int) × Int → Option (Int ⊕ Unit)
  | (k0,c0)=>(if 0 ≤ c0 then (idx a2.fUndone c0).bind fun b0=>(wardmoteref26_put_p n k0 b0.fUnit b0.fFrom b0.fTo).bind fun d0=>(if d0.2 = true then (chk (c0 - 1)).bind fun j0=>g0 (d0.1,j0) else some (.inl (260:Int))) else some (.inr ()))
def wardmoteref26_Check_l2 (n:Nat) (a2:TSession) (g0:(List Int) × Int → Option (Int ⊕ Unit)):(List Int) × Int → Option (Int ⊕ Unit)
  | (k0,c0)=>(if 0 ≤ c0 then (idx a2.fDone c0).bind fun b0=>(wardmoteref26_put_p n k0 b0.fUnit b0.fTo b0.fFrom).bind fun d0=>(if d0.2 = true then (chk (c0 - 1)).bind fun j0=>g0 (d0.1,j0) else some (.inl (260:Int))) else some (.inr ()))
def wardmoteref26_Check_p (n:Nat) (a0:TGraph) (a1:TRoll) (a2:TSession):Option Int:=
  (wardmoteref25_Check_p n a0 a1 a2.fPlan a2.fK).bind fun b0=>(if b0 = 0 then (wardmoteref22_Totals_p n a1 a2.fPlan a2.fK).bind fun c0=>(wardmoteref26_sameInts_p n c0.1 a2.fTotals).bind fun d0=>(if d0 = true then (wardmoteref26_steps_p n a2.fDone a0.fN a2.fK).bind fun g0=>(if g0 = true then (wardmoteref26_steps_p n a2.fUndone a0.fN a2.fK).bind fun j0=>(if j0 = true then thn (loopF (wardmoteref26_Check_l2 n a2) n (a2.fPlan,((a2.fDone.length:Nat):Int) - 1)) (fun _=>thn (loopF (wardmoteref26_Check_l1 n a2) n (a2.fPlan,((a2.fUndone.length:Nat):Int) - 1)) (fun _=>some (0:Int))) else some (260:Int)) else some (260:Int)) else some (260:Int)) else some b0)
theorem wardmoteref26_Check_c (n:Nat) (L:List Nat) (w:World) (hL:∀ b ∈ L,b < w.heap.size) (a0:TGraph) {v0_1:Value} (h0_1:Rep.R w L [v0_1] a0.fEdges) (a1:TRoll) {v1_3:Value} (h1_3:Rep.R w L [v1_3] a1.fUnits) (a2:TSession) {v2_1:Value} (h2_1:Rep.R w L [v2_1] a2.fPlan) {v2_2:Value} (h2_2:Rep.R w L [v2_2] a2.fTotals) {v2_3:Value} (h2_3:Rep.R w L [v2_3] a2.fDone) {v2_4:Value} (h2_4:Rep.R w L [v2_4] a2.fUndone)  {r:Int} (h:wardmoteref26_Check_p n a0 a1 a2 = some r) :
    Calls Tryz.prog 21 #[.agg #[vI a0.fN,v0_1],.agg #[vI a1.fGroups,vI a1.fParties,vI a1.fLevels,v1_3],.agg #[vI a2.fK,v2_1,v2_2,v2_3,v2_4]] w (Gives w fun _ u=>u = vI r):=by
 unfold wardmoteref26_Check_p at h
 have hS0:=AK w
 refine AM Tryz.func21 rfl rfl rfl (fun _ cs0 hb0=>?_)
 refine Ae<|Az .plain rfl (AI hS0 rfl rfl) (fun w2 b5 hS3 hT4=>?_)
 refine Az .plain rfl (AI hS3 rfl rfl) (fun w7 c3 hS8 hT9=>?_)
 refine Az .plain rfl (AI hS8 rfl rfl) (fun H3 d0 c0 s3=>?_)
 refine Ag rfl<|Aa<|Ak<|Ae<|Ab (AG rfl (c0.memA (.tl (.tl .hd))))<|Ab (AG rfl (c0.memA (.tl .hd)))<|AH 1 rfl<|AS rfl ((c0.memA .hd) 1 _ rfl)<|AH 0 rfl<|AS rfl ((c0.memA .hd) 0 _ rfl) ?_
 obtain ⟨V0,B2,h⟩:=bi h
 refine BE (vI V0) body54 rfl (e4 rfl rfl rfl rfl) (fun w9 hw9=>wardmoteref25_Check_c n _ w9 (c0.hL0 hL hw9) a0 (c0.k0 h0_1 hw9) a1 (c0.k0 h1_3 hw9) a2.fPlan (c0.k0 h2_1 hw9) a2.fK B2) rfl<|Ag rfl<|Aa<|Ae<|Ac rfl<|Ab (BO (i:=V0) (j:=0) rfl rfl)<|Aa<|BV rfl h (fun X0 h=>?_) (fun X0 h=>?_)
 refine Ao<|Ae<|Ab (AG rfl (c0.memA (.tl .hd)))<|AH 1 rfl<|AS rfl ((c0.memA .hd) 1 _ rfl)<|AH 0 rfl<|AS rfl ((c0.memA .hd) 0 _ rfl) ?_
 obtain ⟨Q2,C2,h⟩:=bi h
 refine Bx (fst:=[]) (cap:=[]) .plain body55 rfl (e3 rfl rfl rfl) (fun w9 hw9=>wardmoteref22_Totals_c n _ w9 (c0.hL hL hw9) a1 (c0.km h1_3 hw9) a2.fPlan (c0.km h2_1 hw9) a2.fK C2) rfl (fun M2 C3 C1 ⟨A3,hu_,p2⟩=>?_)
 subst hu_
 obtain ⟨b0,t3⟩:=c0.agr C1
 refine Ac rfl<|Ab (Au rfl rfl)<|Ab (Au rfl rfl)<|Ag rfl<|Ag rfl<|Aa<|Ak<|Ae<|Ac rfl<|AH 2 rfl<|AS rfl ((b0.memA .hd) 2 _ rfl) ?_
 obtain ⟨U2,E2,h⟩:=bi h
 refine BE (.bool U2) body45 rfl (e2 rfl rfl) (fun w9 hw9=>wardmoteref26_sameInts_c n _ w9 (b0.hL0 hL hw9) Q2.1 (b0.kd p2 hw9) a2.fTotals (b0.k0 h2_2 hw9) E2) rfl<|Ab (Ba rfl)<|Ac rfl<|RG.ifnb (s:=40) rfl h (fun b1 h=>?_) (fun b1 h=>?_)
 refine BB 3 rfl<|Ap (AA rfl ((b0.memA .hd) 3 _ rfl))<|BB 0 rfl<|Ap (AA rfl ((b0.memA (.tl (.tl .hd))) 0 _ rfl))<|BB 0 rfl<|Ap (AA rfl ((b0.memA .hd) 0 _ rfl)) ?_
 obtain ⟨V2,F2,h⟩:=bi h
 refine RG.callq' (v:=.bool V2) (fst:=[]) (cap:=[]) (.yes rfl rfl) body56 rfl (e3 rfl rfl rfl) (fun w9 hw9=>wardmoteref26_steps_c n _ w9 (b0.hL0 hL hw9) a2.fDone (b0.k0 h2_3 hw9) a0.fN a2.fK F2) rfl<|Ap (Ba rfl)<|AO rfl rfl<|Ac rfl<|RG.ifnb (s:=50) rfl h (fun c1 h=>?_) (fun c1 h=>?_)
 refine BB 4 rfl<|Ap (AA rfl ((b0.memA .hd) 4 _ rfl))<|BB 0 rfl<|Ap (AA rfl ((b0.memA (.tl (.tl .hd))) 0 _ rfl))<|BB 0 rfl<|Ap (AA rfl ((b0.memA .hd) 0 _ rfl)) ?_
 obtain ⟨W2,G2,h⟩:=bi h
 refine RG.callq' (v:=.bool W2) (fst:=[]) (cap:=[]) (.yes rfl rfl) body56 rfl (e3 rfl rfl rfl) (fun w9 hw9=>wardmoteref26_steps_c n _ w9 (b0.hL0 hL hw9) a2.fUndone (b0.k0 h2_4 hw9) a0.fN a2.fK G2) rfl<|Ap (Ba rfl)<|AO rfl rfl<|Aa<|BS rfl h (fun d1 h=>?_) (fun d1 h=>?_)
 refine Ao<|Ae<|AH 1 rfl<|AS rfl ((b0.memA .hd) 1 _ rfl)<|Ag rfl<|Ag rfl<|Aa<|Ak<|Ae<|AH 3 rfl<|AS rfl ((b0.memA .hd) 3 _ rfl) ?_
 have U0:=Ax h2_3 b0
 have x3:a2.fDone.length ≤ 281474976710656:=AZ U0
 refine Ab (Bj (xs:=a2.fDone) Tryz.underlying46 rfl U0)<|Ab (FV.subI (i:=((a2.fDone.length:Nat):Int)) (j:=1) rfl rfl (by omega))<|Ag rfl<|Aa<|AB ?_
 obtain ⟨F0,u3⟩:=AD b0 (.one .hd .done)
 have V1:=Ax h2_1 F0
 obtain ⟨z3,Z1,Q0⟩:=thn_in h
 refine Bp (α:=(List Int) × Int × Value) (fun ⟨u0,p0,z0⟩=>[(5,vP d0),(10,z0),(12,vI p0)]) (fun ⟨u0,p0,z0⟩ A0=>St w A0 [.cells d0 [vI a2.fK,v2_1,v2_2,v2_3,v2_4] 48]∧Tr M2 [.cells d0 [vI a2.fK,v2_1,v2_2,v2_3,v2_4] 48] A0 [.cells d0 [vI a2.fK,v2_1,v2_2,v2_3,v2_4] 48]∧Rep.R A0 (bl [.cells d0 [vI a2.fK,v2_1,v2_2,v2_3,v2_4] 48] ++ L) [z0] u0) (fun ⟨u0,p0,z0⟩=>(u0,p0)) (a2.fPlan,((a2.fDone.length:Nat):Int) - 1,v2_1) Z1 ⟨rfl,rfl,rfl,trivial⟩ ⟨F0,AN _ _,V1⟩ ?_
 rintro b3 ⟨u0,p0,z0⟩ A0 k1 ⟨g0,z1,q2⟩ h
 unfold wardmoteref26_Check_l2 at h
 try dsimp only at h
 refine Ak<|Ae<|Ac rfl<|Ab (FV.geq (i:=p0) (j:=0) rfl rfl)<|Aa<|AW rfl h (fun g1 h=>?_) (fun g1 h=>?_)
 refine Ao<|Ak<|AB<|Ae<|AH 3 rfl<|AS rfl ((g0.memA .hd) 3 _ rfl)<|Ac rfl ?_
 obtain ⟨s0,y2,h⟩:=bi h
 obtain ⟨G1,z2⟩:=idx_in y2
 have X1:=Ax h2_3 g0
 obtain ⟨Y2,k3,E1,I1,q3,s2,W1⟩:=Bb X1 z2
 obtain rfl:=op_TMove s2
 refine Ab (Be 3 (p0.toNat) rfl E1 rfl G1 I1)<|Ab (AG rfl W1)<|Az .plain rfl (AX [vI 0,vI 0,vI 0] g0) (fun E3 d3 p1 G0=>?_)
 refine Bk [vI s0.fUnit,vI s0.fFrom,vI s0.fTo] p1 .hd (onesB rfl) (fun F3 v0 H0=>?_)
 refine Aa<|Ae<|Ac rfl<|AH 0 rfl<|AS rfl ((v0.memA .hd) 0 _ rfl)<|AH 2 rfl<|AS rfl ((v0.memA .hd) 2 _ rfl)<|AH 1 rfl<|AS rfl ((v0.memA .hd) 1 _ rfl) ?_
 obtain ⟨P2,A2,h⟩:=bi h
 have J1:=Aj q2 (Tt G0 H0)
 refine Bx (fst:=[]) (cap:=[]) .plain body43 rfl (e4 rfl rfl rfl rfl) (fun w9 hw9=>wardmoteref26_put_c n _ w9 (v0.hL hL hw9) u0 (Av J1 hw9) s0.fUnit s0.fTo s0.fFrom A2) rfl (fun G3 B3 A1 ⟨J2,hu_,d2⟩=>?_)
 subst hu_
 obtain ⟨D0,v1⟩:=v0.agr A1
 refine Ac rfl<|Ab (Au rfl rfl)<|Ab (Au rfl rfl)<|Ag rfl<|Ag rfl<|Aa<|Ae<|Ac rfl<|Ab (Ba rfl)<|Aa<|BS rfl h (fun W0 h=>?_) (fun W0 h=>?_)
 refine Ao<|AF<|Aw<|Ac rfl ?_
 obtain ⟨H2,t2,h⟩:=bi h
 refine Ab (FV.subc (i:=p0) (j:=1) rfl rfl t2)<|Ag rfl<|Aa ?_
 obtain ⟨q1,I0⟩:=AD D0 (.one (.tl .hd) .done)
 have K1:=Aj d2 I0
 have b2:=Tt G0 (Tt H0 (Tt v1 I0))
 exact k1 (P2.1,H2,J2) _ _ ⟨rfl,rfl,rfl,trivial⟩ ⟨q1,(Tt z1 b2),K1⟩ h
 refine Ae<|Ag rfl<|Aa ?_
 have h:=thn_inl h Q0
 refine Am rfl<|AJ hb0 Tryz.func21 rfl rfl ?_
 cases h
 exact D0.gv
 refine Bd rfl ?_
 have h:=thn_inr h Q0
 try dsimp only at h
 refine Ae<|AH 1 rfl<|AS rfl ((g0.memA .hd) 1 _ rfl)<|Ag rfl<|Aa<|Ak<|Ae<|AH 4 rfl<|AS rfl ((g0.memA .hd) 4 _ rfl) ?_
 have R0:=Ax h2_4 g0
 have v3:a2.fUndone.length ≤ 281474976710656:=AZ R0
 refine Ab (Bj (xs:=a2.fUndone) Tryz.underlying46 rfl R0)<|Ab (FV.subI (i:=((a2.fUndone.length:Nat):Int)) (j:=1) rfl rfl (by omega))<|Ag rfl<|Aa<|AB ?_
 have M1:=Ax h2_1 g0
 obtain ⟨y3,Y1,P0⟩:=thn_in h
 refine Bp (α:=(List Int) × Int × Value) (fun ⟨t0,j0,y0⟩=>[(5,vP d0),(10,y0),(14,vI j0)]) (fun ⟨t0,j0,y0⟩ C0=>St w C0 [.cells d0 [vI a2.fK,v2_1,v2_2,v2_3,v2_4] 48]∧Tr A0 [.cells d0 [vI a2.fK,v2_1,v2_2,v2_3,v2_4] 48] C0 [.cells d0 [vI a2.fK,v2_1,v2_2,v2_3,v2_4] 48]∧Rep.R C0 (bl [.cells d0 [vI a2.fK,v2_1,v2_2,v2_3,v2_4] 48] ++ L) [y0] t0) (fun ⟨t0,j0,y0⟩=>(t0,j0)) (a2.fPlan,((a2.fUndone.length:Nat):Int) - 1,v2_1) Y1 ⟨rfl,rfl,rfl,trivial⟩ ⟨g0,AN _ _,M1⟩ ?_
 rintro Z2 ⟨t0,j0,y0⟩ C0 j1 ⟨B0,x1,g2⟩ h
 unfold wardmoteref26_Check_l1 at h
 try dsimp only at h
 refine Ak<|Ae<|Ac rfl<|Ab (FV.geq (i:=j0) (j:=0) rfl rfl)<|Aa<|AW rfl h (fun Y0 h=>?_) (fun Y0 h=>?_)
 refine Ao<|Ak<|AB<|Ae<|AH 4 rfl<|AS rfl ((B0.memA .hd) 4 _ rfl)<|Ac rfl ?_
 obtain ⟨q0,v2,h⟩:=bi h
 obtain ⟨F1,x2⟩:=idx_in v2
 have Q1:=Ax h2_4 B0
 obtain ⟨X2,j3,D1,H1,p3,j2,P1⟩:=Bb Q1 x2
 obtain rfl:=op_TMove j2
 refine Ab (Be 3 (j0.toNat) rfl D1 rfl F1 H1)<|Ab (AG rfl P1)<|Az .plain rfl (AX [vI 0,vI 0,vI 0] B0) (fun I3 g3 s1 J0=>?_)
 refine Bk [vI q0.fUnit,vI q0.fFrom,vI q0.fTo] s1 .hd (onesB rfl) (fun J3 x0 K0=>?_)
 refine Aa<|Ae<|Ac rfl<|AH 0 rfl<|AS rfl ((x0.memA .hd) 0 _ rfl)<|AH 1 rfl<|AS rfl ((x0.memA .hd) 1 _ rfl)<|AH 2 rfl<|AS rfl ((x0.memA .hd) 2 _ rfl) ?_
 obtain ⟨R2,D2,h⟩:=bi h
 have R1:=Aj g2 (Tt J0 K0)
 refine Bx (fst:=[]) (cap:=[]) .plain body43 rfl (e4 rfl rfl rfl rfl) (fun w9 hw9=>wardmoteref26_put_c n _ w9 (x0.hL hL hw9) t0 (Av R1 hw9) q0.fUnit q0.fFrom q0.fTo D2) rfl (fun K3 D3 B1 ⟨K2,hu_,k2⟩=>?_)
 subst hu_
 obtain ⟨E0,y1⟩:=x0.agr B1
 refine Ac rfl<|Ab (Au rfl rfl)<|Ab (Au rfl rfl)<|Ag rfl<|Ag rfl<|Aa<|Ae<|Ac rfl<|Ab (Ba rfl)<|Aa<|BS rfl h (fun Z0 h=>?_) (fun Z0 h=>?_)
 refine Ao<|AF<|Aw<|Ac rfl ?_
 obtain ⟨I2,u2,h⟩:=bi h
 refine Ab (FV.subc (i:=j0) (j:=1) rfl rfl u2)<|Ag rfl<|Aa ?_
 obtain ⟨u1,M0⟩:=AD E0 (.one (.tl .hd) .done)
 have U1:=Aj k2 M0
 have c2:=Tt J0 (Tt K0 (Tt y1 M0))
 exact j1 (R2.1,I2,K2) _ _ ⟨rfl,rfl,rfl,trivial⟩ ⟨u1,(Tt x1 c2),U1⟩ h
 refine Ae<|Ag rfl<|Aa ?_
 have h:=thn_inl h P0
 refine Am rfl<|AJ hb0 Tryz.func21 rfl rfl ?_
 cases h
 exact E0.gv
 refine Bd rfl ?_
 have h:=thn_inr h P0
 try dsimp only at h
 refine Ae<|Ag rfl<|Aa<|Am rfl<|AJ hb0 Tryz.func21 rfl rfl ?_
 cases h
 exact B0.gv
 refine Ae<|Ag rfl<|Aa<|Am rfl<|AJ hb0 Tryz.func21 rfl rfl ?_
 cases h
 exact b0.gv
 refine Af<|Af<|Af<|Af<|Af<|Af<|Af<|Af<|AU rfl rfl<|Aa<|AY rfl<|Ae<|Ag rfl<|Aa<|Am rfl<|AJ hb0 Tryz.func21 rfl rfl ?_
 cases h
 exact b0.gv
 refine Af<|Af<|Af<|Af<|Af<|Af<|Af<|Af<|AU rfl rfl<|Ac rfl<|Af<|Af<|Af<|Af<|Af<|Af<|Af<|Af<|AU rfl rfl<|Aa<|AY rfl<|Ae<|Ag rfl<|Aa ?_
 refine Am rfl<|AJ hb0 Tryz.func21 rfl rfl ?_
 cases h
 exact b0.gv
 refine Ae<|Ac rfl<|Ag rfl<|Aa<|Am rfl<|AJ hb0 Tryz.func21 rfl rfl ?_
 cases h
 exact c0.gv
def wardmoteref26_with_p (n:Nat) (a0:TRoll) (a1:TSession) (a2:List Int):Option TSession:=
  (wardmoteref22_Totals_p n a0 a2 a1.fK).bind fun b0=>some (⟨a1.fK,a2,b0.1,a1.fDone,a1.fUndone⟩:TSession)
theorem wardmoteref26_with_c (n:Nat) (L:List Nat) (w:World) (hL:∀ b ∈ L,b < w.heap.size) (a0:TRoll) {v0_3:Value} (h0_3:Rep.R w L [v0_3] a0.fUnits) (a1:TSession) {v1_1:Value} (h1_1:Rep.R w L [v1_1] a1.fPlan) {v1_2:Value} (h1_2:Rep.R w L [v1_2] a1.fTotals) {v1_3:Value} (h1_3:Rep.R w L [v1_3] a1.fDone) {v1_4:Value} (h1_4:Rep.R w L [v1_4] a1.fUndone) (a2:List Int) {v2_0:Value} (h2_0:Rep.R w L [v2_0] a2)  {r:TSession} (h:wardmoteref26_with_p n a0 a1 a2 = some r) :
    Calls Tryz.prog 44 #[.agg #[vI a0.fGroups,vI a0.fParties,vI a0.fLevels,v0_3],.agg #[vI a1.fK,v1_1,v1_2,v1_3,v1_4],v2_0] w (Gives w fun w' u=>∃ v0_1 v0_2 v0_3 v0_4:Value,u = .agg #[vI r.fK,v0_1,v0_2,v0_3,v0_4]∧Rep.R w' L [v0_1] r.fPlan∧Rep.R w' L [v0_2] r.fTotals∧Rep.R w' L [v0_3] r.fDone∧Rep.R w' L [v0_4] r.fUndone):=by
 unfold wardmoteref26_with_p at h
 have hS0:=AK w
 refine AM Tryz.func44 rfl rfl rfl (fun _ cs0 hb0=>?_)
 refine Ae<|Az .plain rfl (AI hS0 rfl rfl) (fun w2 b5 hS3 hT4=>?_)
 refine Az .plain rfl (AI hS3 rfl rfl) (fun w7 D0 hS8 hT9=>?_)
 refine Az .plain rfl (AX [vI 0,vN,vN,vN,vN] hS8) (fun J0 E0 p0 F0=>?_)
 refine Aa<|Ae<|Ac rfl<|AH 1 rfl ?_
 have s0:=Ax h2_0 p0
 refine BG .plain (Br (j:=1) (old:=[vI a1.fK,v1_1,v1_2,v1_3,v1_4]) (news:=[v2_0]) (new' :=[vI a1.fK,v2_0,v1_2,v1_3,v1_4]) p0 (.tl .hd) rfl rfl rfl (Rep.c1 s0) rfl rfl (o1 (AP s0)) rfl) (fun K0 b0 G0=>?_)
 refine Aa<|Ae<|Ab (AG rfl (b0.memA (.tl (.tl .hd))))<|Ac rfl<|AH 0 rfl<|AS rfl ((b0.memA (.tl .hd)) 0 _ rfl) ?_
 obtain ⟨R0,C0,h⟩:=bi h
 refine Bx (fst:=[]) (cap:=[]) .plain body55 rfl (e3 rfl rfl rfl) (fun w9 hw9=>wardmoteref22_Totals_c n _ w9 (b0.hL hL hw9) a0 (b0.km h0_3 hw9) a2 (b0.km h2_0 hw9) a1.fK C0) rfl (fun M0 I0 v0 ⟨g0,hu_,j0⟩=>?_)
 subst hu_
 obtain ⟨t0,H0⟩:=b0.agr v0
 refine Ac rfl<|Ab (Au rfl rfl)<|Ab (Au rfl rfl)<|AH 2 rfl<|BG .plain (Br (j:=2) (old:=[vI a1.fK,v2_0,v1_2,v1_3,v1_4]) (news:=[g0]) (new' :=[vI a1.fK,v2_0,g0,v1_3,v1_4]) t0 (.tl .hd) rfl rfl rfl (Rep.c1 j0) rfl rfl (o1 (AP j0)) rfl) (fun P0 d0 q0=>?_)
 refine Aa<|Ae<|Ab (AG rfl (d0.memA (.tl .hd))) ?_
 have x0:=Ax h2_0 d0
 have y0:=Aj j0 q0
 have z0:=Ax h1_3 d0
 have A0:=Ax h1_4 d0
 refine Bk [vI a1.fK,v2_0,g0,v1_3,v1_4] d0 .hd (o5 rfl (AP x0) (AP y0) (AP z0) (AP A0)) (fun Q0 c0 u0=>?_)
 refine Aa<|Am rfl<|Ay hb0 Tryz.func44 rfl (.cons (.many (cs:=[vI a1.fK,v2_0,g0,v1_3,v1_4]) (by kernel_rfl) rfl (c0.memA .hd)) .nil) rfl ?_
 cases h
 have B0:=Aj j0 (Tt q0 u0)
 exact ⟨c0.ag,fun w9 hw9=>⟨v2_0,g0,v1_3,v1_4,rfl,c0.k0 h2_0 hw9,c0.kd B0 hw9,c0.k0 h1_3 hw9,c0.k0 h1_4 hw9⟩⟩
theorem body21:bodyB Tryz.prog 21 = true:=by kernel_rfl
theorem body44:bodyB Tryz.prog 44 = true:=by kernel_rfl
def wardmoteref26_Make_p (n:Nat) (a0:TGraph) (a1:TRoll) (a2:TSession) (a3:Int) (a4:Int):Option (TSession × Int):=
  (wardmoteref26_Check_p n a0 a1 a2).bind fun g0=>(if g0 = 0 then jn (fun k0=>(if k0 = true then some ((⟨(0:Int),([]:List Int),([]:List Int),([]:List TMove),([]:List TMove)⟩:TSession),(2:Int)) else (idx a2.fPlan a3).bind fun d0=>(wardmoteref26_put_p n a2.fPlan a3 d0 a4).bind fun j0=>(if j0.2 = true then (if a2.fDone.length = 200 then some ((⟨(0:Int),([]:List Int),([]:List Int),([]:List TMove),([]:List TMove)⟩:TSession),(3:Int)) else (wardmoteref26_with_p n a1 a2 j0.1).bind fun c0=>(app ([]:List TMove) a2.fDone).bind fun q0=>(app q0 ([(⟨a3,d0,a4⟩:TMove)]:List TMove)).bind fun s0=>some ((⟨c0.fK,c0.fPlan,c0.fTotals,s0,([]:List TMove)⟩:TSession),(0:Int))) else some ((⟨(0:Int),([]:List Int),([]:List Int),([]:List TMove),([]:List TMove)⟩:TSession),(4:Int))))) (fun b0=>(if a3 < 0 then b0 true else (if a0.fN ≤ a3 then b0 true else (if a4 < 0 then b0 true else (if a2.fK ≤ a4 then b0 true else (idx a2.fPlan a3).bind fun p0=>b0 (decide (a4 = p0))))))) else some ((⟨(0:Int),([]:List Int),([]:List Int),([]:List TMove),([]:List TMove)⟩:TSession),g0))
theorem wardmoteref26_Make_c (n:Nat) (L:List Nat) (w:World) (hL:∀ b ∈ L,b < w.heap.size) (a0:TGraph) {v0_1:Value} (h0_1:Rep.R w L [v0_1] a0.fEdges) (a1:TRoll) {v1_3:Value} (h1_3:Rep.R w L [v1_3] a1.fUnits) (a2:TSession) {v2_1:Value} (h2_1:Rep.R w L [v2_1] a2.fPlan) {v2_2:Value} (h2_2:Rep.R w L [v2_2] a2.fTotals) {v2_3:Value} (h2_3:Rep.R w L [v2_3] a2.fDone) {v2_4:Value} (h2_4:Rep.R w L [v2_4] a2.fUndone) (a3:Int) (a4:Int)  {r:TSession × Int} (h:wardmoteref26_Make_p n a0 a1 a2 a3 a4 = some r) :
    Calls Tryz.prog 14 #[.agg #[vI a0.fN,v0_1],.agg #[vI a1.fGroups,vI a1.fParties,vI a1.fLevels,v1_3],.agg #[vI a2.fK,v2_1,v2_2,v2_3,v2_4],vI a3,vI a4] w (Gives w fun w' u=>∃ v0_1 v0_2 v0_3 v0_4:Value,u = .tuple #[.agg #[vI r.1.fK,v0_1,v0_2,v0_3,v0_4],vI r.2]∧Rep.R w' L [v0_1] r.1.fPlan∧Rep.R w' L [v0_2] r.1.fTotals∧Rep.R w' L [v0_3] r.1.fDone∧Rep.R w' L [v0_4] r.1.fUndone):=by
 unfold wardmoteref26_Make_p at h
 have hS0:=AK w
 refine AM Tryz.func14 rfl rfl rfl (fun _ cs0 hb0=>?_)
 refine Ae<|Az .plain rfl (AI hS0 rfl rfl) (fun w2 b5 hS3 hT4=>?_)
 refine Az .plain rfl (AI hS3 rfl rfl) (fun w7 C0 hS8 hT9=>?_)
 refine Az .plain rfl (AI hS8 rfl rfl) (fun x4 D0 J1 V3=>?_)
 refine Az .plain rfl (AX [vI 0,vN,vN,vN,vN] J1) (fun D3 E0 b0 X3=>?_)
 refine Ag rfl<|Aa<|Ak<|Ae<|Ab (AG rfl (b0.memA (.tl (.tl (.tl .hd)))))<|Ab (AG rfl (b0.memA (.tl (.tl .hd))))<|Ab (AG rfl (b0.memA (.tl .hd))) ?_
 obtain ⟨v1,A3,h⟩:=bi h
 refine BE (vI v1) body21 rfl (e3 rfl rfl rfl) (fun w9 hw9=>wardmoteref26_Check_c n _ w9 (b0.hL0 hL hw9) a0 (b0.k0 h0_1 hw9) a1 (b0.k0 h1_3 hw9) a2 (b0.k0 h2_1 hw9) (b0.k0 h2_2 hw9) (b0.k0 h2_3 hw9) (b0.k0 h2_4 hw9) A3) rfl<|Ag rfl<|Aa<|Ae<|Ac rfl<|Ab (BO (i:=v1) (j:=0) rfl rfl)<|Aa<|BV rfl h (fun B1 h=>?_) (fun B1 h=>?_)
 refine Ao<|Ak<|Ak<|MX.join (α:=Bool) (fun B0=>[(3,vI a3),(4,vI a4),(6,vP C0),(7,vP D0),(10,vP E0),(51,.bool B0)]) (fun B0 R0=>St w R0 [.cells E0 [vI 0,vN,vN,vN,vN] 48,.cells D0 [vI a2.fK,v2_1,v2_2,v2_3,v2_4] 48,.cells C0 [vI a1.fGroups,vI a1.fParties,vI a1.fLevels,v1_3] 41]∧Tr D3 [.cells E0 [vI 0,vN,vN,vN,vN] 48,.cells D0 [vI a2.fK,v2_1,v2_2,v2_3,v2_4] 48,.cells C0 [vI a1.fGroups,vI a1.fParties,vI a1.fLevels,v1_3] 41,.cells b5 [vI a0.fN,v0_1] 38] R0 [.cells E0 [vI 0,vN,vN,vN,vN] 48,.cells D0 [vI a2.fK,v2_1,v2_2,v2_3,v2_4] 48,.cells C0 [vI a1.fGroups,vI a1.fParties,vI a1.fLevels,v1_3] 41]) (fun B0=>B0) h ?_ ?_
 rintro B0 R0 ⟨x0,Z3⟩ h
 try dsimp only at h
 refine MX.ifb rfl h (fun C1 h=>?_) (fun C1 h=>?_)
 refine Ae<|Ab (AV (vs:=[]) (u:=.agg #[vI 0,vN,vN,vN,vN]) evs_nil (fun w9=>by kernel_rfl))<|Bk [vI 0,vN,vN,vN,vN] x0 .hd (onesB rfl) (fun F4 q0 b4=>?_)
 refine Ag rfl<|Aa<|Am rfl ?_
 have p1:=AL (α:=Int) q0 L
 have q1:=AL (α:=TMove) q0 L
 refine Ay hb0 Tryz.func14 rfl (.cons (.many (cs:=[vI 0,vN,vN,vN,vN]) (by kernel_rfl) rfl (q0.memA .hd)) (.cons (.tmp rfl) .nil)) rfl ?_
 cases h
 exact ⟨q0.ag,fun w9 hw9=>⟨vN,vN,vN,vN,rfl,q0.kd p1 hw9,q0.kd p1 hw9,q0.kd q1 hw9,q0.kd q1 hw9⟩⟩
 refine Ao<|Ae<|AH 1 rfl<|AS rfl ((x0.memA (.tl .hd)) 1 _ rfl)<|Ac rfl ?_
 obtain ⟨d0,v3,h⟩:=bi h
 obtain ⟨D2,x3⟩:=idx_in v3
 have Y2:=Ax h2_1 x0
 obtain ⟨H3,Q3,A2,F2,G1,k3,X2⟩:=Bb Y2 x3
 have B2:G1 = [vI d0]:=k3; subst B2
 refine Ab (Be 1 (a3.toNat) rfl A2 rfl D2 F2)<|AS rfl (X2 0 _ rfl)<|Ag rfl<|Aa<|Ae<|AH 1 rfl<|AS rfl ((x0.memA (.tl .hd)) 1 _ rfl)<|Ac rfl<|Ac rfl<|Ac rfl ?_
 obtain ⟨F3,B3,h⟩:=bi h
 refine Bx (fst:=[]) (cap:=[]) .plain body43 rfl (e4 rfl rfl rfl rfl) (fun w9 hw9=>wardmoteref26_put_c n _ w9 (x0.hL hL hw9) a2.fPlan (x0.km h2_1 hw9) a3 d0 a4 B3) rfl (fun G4 q4 q2 ⟨p4,hu_,p3⟩=>?_)
 subst hu_
 obtain ⟨c0,c4⟩:=x0.agr q2
 refine Ac rfl<|Ab (Au rfl rfl)<|Ab (Au rfl rfl)<|Ag rfl<|Ag rfl<|Aa<|Ak<|Ae<|Ac rfl<|Ab (Ba rfl)<|Aa<|BS rfl h (fun D1 h=>?_) (fun D1 h=>?_)
 refine Ao<|Ak<|Ae<|AH 3 rfl<|AS rfl ((c0.memA (.tl .hd)) 3 _ rfl) ?_
 have Z0:=Ax h2_3 c0
 have j4:a2.fDone.length ≤ 281474976710656:=AZ Z0
 refine Ab (Bj (xs:=a2.fDone) Tryz.underlying46 rfl Z0)<|Ab (BR (i:=a2.fDone.length) (j:=200) rfl rfl)<|Aa<|AW rfl h (fun E1 h=>?_) (fun E1 h=>?_)
 refine Ae<|Ab (AV (vs:=[]) (u:=.agg #[vI 0,vN,vN,vN,vN]) evs_nil (fun w9=>by kernel_rfl))<|Bk [vI 0,vN,vN,vN,vN] c0 .hd (onesB rfl) (fun H4 s0 d4=>?_)
 refine Ag rfl<|Aa<|Am rfl ?_
 have s1:=AL (α:=Int) s0 L
 have t1:=AL (α:=TMove) s0 L
 refine Ay hb0 Tryz.func14 rfl (.cons (.many (cs:=[vI 0,vN,vN,vN,vN]) (by kernel_rfl) rfl (s0.memA .hd)) (.cons (.tmp rfl) .nil)) rfl ?_
 cases h
 exact ⟨s0.ag,fun w9 hw9=>⟨vN,vN,vN,vN,rfl,s0.kd s1 hw9,s0.kd s1 hw9,s0.kd t1 hw9,s0.kd t1 hw9⟩⟩
 refine Ao<|Ae<|Ab (AG rfl (c0.memA (.tl (.tl .hd))))<|Ab (AG rfl (c0.memA (.tl .hd)))<|Ac rfl ?_
 obtain ⟨y0,C3,h⟩:=bi h
 refine Bx (fst:=[]) (cap:=[]) .plain body44 rfl (e3 rfl rfl rfl) (fun w9 hw9=>wardmoteref26_with_c n _ w9 (c0.hL hL hw9) a1 (c0.km h1_3 hw9) a2 (c0.km h2_1 hw9) (c0.km h2_2 hw9) (c0.km h2_3 hw9) (c0.km h2_4 hw9) F3.1 (Av p3 hw9) C3) rfl (fun I4 s4 s2 ⟨u0,v0,u1,G0,hu_,P0,Q0,q3,s3⟩=>?_)
 subst hu_
 obtain ⟨V1,g4⟩:=c0.agr s2
 refine Az .plain rfl (AX [vI 0,vN,vN,vN,vN] V1) (fun J4 M3 W1 A0=>?_)
 have Z2:=Aj P0 A0
 have G2:=Aj Q0 A0
 have H2:=Aj q3 A0
 have I2:=Aj s3 A0
 refine Bk [vI y0.fK,u0,v0,u1,G0] W1 .hd (o5 rfl (AP Z2) (AP G2) (AP H2) (AP I2)) (fun t4 H1 X1=>?_)
 refine Aa<|Ae<|Az .plain rfl (AE (α:=TMove) (xs:=([]:List TMove)) (vs:=[]) (ds' :=[]) rfl H1 el46 rfl evs_nil (by kernel_rfl) rfl) (fun u4 J3 F0 Y1=>?_)
 have t2:=Ar (cs:=[]) (xs:=(([]:List TMove):List TMove)) F0 L (AC _ _)
 refine AH 3 rfl<|Ab (AA rfl ((F0.memA (.tl (.tl (.tl .hd)))) 3 _ rfl)) ?_
 obtain ⟨K4,y3,h⟩:=bi h
 have J2:=Ax h2_3 F0
 refine RG.doesL .plain rfl (AR (α:=TMove) (ys:=a2.fDone) y3 F0 (fun _ _=>.hd) el46 rfl rfl t2 (Bw J2)) (fun k4 v4 ⟨R3,I1,Z1,u2⟩=>?_)
 refine Ac rfl<|Ac rfl<|Ac rfl<|Ab (AV (vs:=[vI a3,vI d0,vI a4]) (u:=.agg #[vI a3,vI d0,vI a4]) (e3 rfl rfl rfl) (fun w9=>by kernel_rfl))<|Az .plain rfl (AE (α:=TMove) (xs:=([(⟨a3,d0,a4⟩:TMove)]:List TMove)) (vs:=[.agg #[vI a3,vI d0,vI a4]]) (ds' :=[vI a3,vI d0,vI a4]) rfl I1 el46 rfl (e1 rfl) (by kernel_rfl) rfl) (fun y4 K3 H0 V0=>?_)
 have v2:=Ar (cs:=[vI a3,vI d0,vI a4]) (xs:=(([(⟨a3,d0,a4⟩:TMove)]:List TMove):List TMove)) H0 L (Aq (cs:=[vI a3,vI d0,vI a4]) (ds:=[]) (mk_TMove a3 d0 a4) (AC _ _))
 obtain ⟨E3,z3,h⟩:=bi h
 have K2:=Al u2 V0
 refine RG.doesL .plain rfl (AR (α:=TMove) (ys:=([(⟨a3,d0,a4⟩:TMove)]:List TMove)) z3 H0 (fun _ _=>(.tl .hd)) el46 rfl rfl K2 (Src.row (α:=TMove) H0 .hd v2)) (fun t0 z4 ⟨U3,I0,b2,x2⟩=>?_)
 refine AH 3 rfl<|BG .plain (Br (j:=3) (old:=[vI y0.fK,u0,v0,u1,G0]) (news:=[t0]) (new' :=[vI y0.fK,u0,v0,t0,G0]) I0 (.tl (.tl .hd)) rfl rfl rfl (St.c1 (α:=TMove) I0 (.tl .hd)) rfl rfl (o1 (Bz (α:=TMove) I0 (.tl .hd))) rfl) (fun A4 K1 W0=>?_)
 refine Aa<|Ae<|AH 4 rfl<|BG .plain (Br (j:=4) (old:=[vI y0.fK,u0,v0,t0,G0]) (news:=[vN]) (new' :=[vI y0.fK,u0,v0,t0,vN]) K1 (.tl (.tl .hd)) rfl rfl rfl rfl rfl rfl (o1 rfl) rfl) (fun B4 J0 X0=>?_)
 refine Aa<|Ae<|Ab (AG rfl (J0.memA (.tl (.tl .hd)))) ?_
 have M0:=Tt A0 (Tt X1 (Tt Y1 (Tt Z1 (Tt V0 (Tt b2 (Tt W0 X0))))))
 have M2:=Aj P0 M0
 have P2:=Aj Q0 M0
 refine Bk [vI y0.fK,u0,v0,t0,vN] J0 (.tl (.tl (.tl .hd))) (o5 rfl (AP M2) (AP P2) (Bz (α:=TMove) J0 (.tl .hd)) rfl) (fun C4 K0 Y0=>?_)
 refine Ag rfl<|Aa<|Am rfl ?_
 have b3:=Tt W0 (Tt X0 Y0)
 have Q2:=Al x2 b3
 have c3:=AQ (α:=TMove) K0 (.tl .hd) Q2 hL
 have g0:=Bf K0 (.tl .hd)
 have c2:=Bg K0 (.tl .hd)
 have d3:=Bh (α:=TMove) (v:=t0) (xs:=E3) g0 L c3
 have g3:=AL (α:=TMove) g0 L
 refine Ay hb0 Tryz.func14 rfl (.cons (.many (cs:=[vI y0.fK,u0,v0,t0,vN]) (by kernel_rfl) rfl (g0.memA (.tl (.tl .hd)))) (.cons (.tmp rfl) .nil)) rfl ?_
 cases h
 have b1:=Tt M0 (Tt Y0 c2)
 have R2:=Aj P0 b1
 have U2:=Aj Q0 b1
 exact ⟨g0.ag,fun w9 hw9=>⟨u0,v0,t0,vN,rfl,g0.kd R2 hw9,g0.kd U2 hw9,g0.kd d3 hw9,g0.kd g3 hw9⟩⟩
 refine Ae<|Ab (AV (vs:=[]) (u:=.agg #[vI 0,vN,vN,vN,vN]) evs_nil (fun w9=>by kernel_rfl))<|Bk [vI 0,vN,vN,vN,vN] c0 .hd (onesB rfl) (fun D4 j0 W3=>?_)
 refine Ag rfl<|Aa<|Am rfl ?_
 have d1:=AL (α:=Int) j0 L
 have g1:=AL (α:=TMove) j0 L
 refine Ay hb0 Tryz.func14 rfl (.cons (.many (cs:=[vI 0,vN,vN,vN,vN]) (by kernel_rfl) rfl (j0.memA .hd)) (.cons (.tmp rfl) .nil)) rfl ?_
 cases h
 exact ⟨j0.ag,fun w9 hw9=>⟨vN,vN,vN,vN,rfl,j0.kd d1 hw9,j0.kd d1 hw9,j0.kd g1 hw9,j0.kd g1 hw9⟩⟩
 intro I3 z0 h
 try dsimp only at h
 refine Aw<|Ac rfl<|Ab (BF (i:=a3) (j:=0) rfl rfl)<|Ac rfl<|Bi (s:=27) rfl h (fun x1 h=>?_) (fun x1 h=>?_)
 refine Af<|Af<|Af<|Af<|AU rfl rfl<|Ac rfl<|Af<|Af<|AU rfl rfl<|Ac rfl<|Af<|Af<|Af<|Af<|AU rfl rfl<|Ac rfl<|Af<|Af<|Af<|Af<|Af<|Af<|Af<|AU rfl rfl ?_
 refine Aa ?_
 obtain ⟨M1,d2⟩:=AD b0 (.one .hd (.one .hd (.one .hd .done)))
 exact z0 true _ _ ⟨rfl,rfl,rfl,rfl,rfl,rfl,trivial⟩ ⟨M1,d2⟩ h
 refine Ap (Ai rfl)<|BB 0 rfl<|Ap (AA rfl ((b0.memA (.tl (.tl (.tl .hd)))) 0 _ rfl))<|Ap (FV.geq (i:=a3) (j:=a0.fN) rfl rfl)<|AO rfl rfl<|Ac rfl<|Bi (s:=33) rfl h (fun y1 h=>?_) (fun y1 h=>?_)
 refine Af<|Af<|AU rfl rfl<|Ac rfl<|Af<|Af<|Af<|Af<|AU rfl rfl<|Ac rfl<|Af<|Af<|Af<|Af<|Af<|Af<|Af<|AU rfl rfl<|Aa ?_
 obtain ⟨P1,g2⟩:=AD b0 (.one .hd (.one .hd (.one .hd .done)))
 exact z0 true _ _ ⟨rfl,rfl,rfl,rfl,rfl,rfl,trivial⟩ ⟨P1,g2⟩ h
 refine Ap (Ai rfl)<|Ap (BF (i:=a4) (j:=0) rfl rfl)<|AO rfl rfl<|Ac rfl<|Bi (s:=37) rfl h (fun z1 h=>?_) (fun z1 h=>?_)
 refine Af<|Af<|Af<|Af<|AU rfl rfl<|Ac rfl<|Af<|Af<|Af<|Af<|Af<|Af<|Af<|AU rfl rfl<|Aa ?_
 obtain ⟨Q1,j2⟩:=AD b0 (.one .hd (.one .hd (.one .hd .done)))
 exact z0 true _ _ ⟨rfl,rfl,rfl,rfl,rfl,rfl,trivial⟩ ⟨Q1,j2⟩ h
 refine Ap (Ai rfl)<|BB 0 rfl<|Ap (AA rfl ((b0.memA (.tl .hd)) 0 _ rfl))<|Ap (FV.geq (i:=a4) (j:=a2.fK) rfl rfl)<|AO rfl rfl<|Ac rfl<|Bi (s:=43) rfl h (fun A1 h=>?_) (fun A1 h=>?_)
 refine Af<|Af<|Af<|Af<|Af<|Af<|Af<|AU rfl rfl<|Aa ?_
 obtain ⟨R1,k2⟩:=AD b0 (.one .hd (.one .hd (.one .hd .done)))
 exact z0 true _ _ ⟨rfl,rfl,rfl,rfl,rfl,rfl,trivial⟩ ⟨R1,k2⟩ h
 refine Ap (Ai rfl)<|BB 1 rfl<|Ap (AA rfl ((b0.memA (.tl .hd)) 1 _ rfl))<|Ap (Ai rfl) ?_
 obtain ⟨U0,t3,h⟩:=bi h
 obtain ⟨C2,u3⟩:=idx_in t3
 have W2:=Ax h2_1 b0
 obtain ⟨G3,P3,y2,E2,F1,j3,V2⟩:=Bb W2 u3
 have z2:F1 = [vI U0]:=j3; subst z2
 refine Ap (Be 1 (a3.toNat) rfl y2 rfl C2 E2)<|Ap (AA rfl (V2 0 _ rfl))<|Ap (FV.eql (i:=a4) (j:=U0) rfl rfl)<|AO rfl rfl<|Aa ?_
 obtain ⟨U1,p2⟩:=AD b0 (.one .hd (.one .hd (.one .hd .done)))
 exact z0 (decide (a4 = U0)) _ _ ⟨rfl,rfl,rfl,rfl,rfl,rfl,trivial⟩ ⟨U1,p2⟩ h
 refine Ae<|Ab (AV (vs:=[]) (u:=.agg #[vI 0,vN,vN,vN,vN]) evs_nil (fun w9=>by kernel_rfl))<|Ac rfl<|Bk [vI 0,vN,vN,vN,vN] b0 .hd (onesB rfl) (fun E4 p0 Y3=>?_)
 refine Ag rfl<|Aa<|Am rfl ?_
 have j1:=AL (α:=Int) p0 L
 have k1:=AL (α:=TMove) p0 L
 refine Ay hb0 Tryz.func14 rfl (.cons (.many (cs:=[vI 0,vN,vN,vN,vN]) (by kernel_rfl) rfl (p0.memA .hd)) (.cons (.tmp rfl) .nil)) rfl ?_
 cases h
 exact ⟨p0.ag,fun w9 hw9=>⟨vN,vN,vN,vN,rfl,p0.kd j1 hw9,p0.kd j1 hw9,p0.kd k1 hw9,p0.kd k1 hw9⟩⟩
def tb33_13:List (Nat × Nat × Nat):=[(0,2305843009213693952,0),(0,4611686018427387904,32),(2,9223372036854775808,4611686018427387904),(5,18446744073709551616,11529215046068469760),(0,36893488147419103232,1024),(16,73786976294838206464,36893488147419103232),(40,147573952589676412928,92233720368547758080),(127,295147905179352825856,8192),(255,0,442721857769029238784)]
def wardmoteref26_Undo_p (n:Nat) (a0:TGraph) (a1:TRoll) (a2:TSession):Option (TSession × Int):=
  (wardmoteref26_Check_p n a0 a1 a2).bind fun d0=>(if d0 = 0 then (if a2.fDone.length = 0 then some ((⟨(0:Int),([]:List Int),([]:List Int),([]:List TMove),([]:List TMove)⟩:TSession),(4:Int)) else (if a2.fUndone.length = 200 then some ((⟨(0:Int),([]:List Int),([]:List Int),([]:List TMove),([]:List TMove)⟩:TSession),(3:Int)) else (idx a2.fDone (((a2.fDone.length:Nat):Int) - 1)).bind fun b0=>(wardmoteref26_put_p n a2.fPlan b0.fUnit b0.fTo b0.fFrom).bind fun p0=>(wardmoteref26_with_p n a1 a2 p0.1).bind fun c0=>(cut a2.fDone 0 (((a2.fDone.length:Nat):Int) - 1)).bind fun k0=>(app ([]:List TMove) a2.fUndone).bind fun g0=>(app g0 ([b0]:List TMove)).bind fun j0=>some ((⟨c0.fK,c0.fPlan,c0.fTotals,k0,j0⟩:TSession),(0:Int)))) else some ((⟨(0:Int),([]:List Int),([]:List Int),([]:List TMove),([]:List TMove)⟩:TSession),d0))
theorem wardmoteref26_Undo_c (n:Nat) (L:List Nat) (w:World) (hL:∀ b ∈ L,b < w.heap.size) (a0:TGraph) {v0_1:Value} (h0_1:Rep.R w L [v0_1] a0.fEdges) (a1:TRoll) {v1_3:Value} (h1_3:Rep.R w L [v1_3] a1.fUnits) (a2:TSession) {v2_1:Value} (h2_1:Rep.R w L [v2_1] a2.fPlan) {v2_2:Value} (h2_2:Rep.R w L [v2_2] a2.fTotals) {v2_3:Value} (h2_3:Rep.R w L [v2_3] a2.fDone) {v2_4:Value} (h2_4:Rep.R w L [v2_4] a2.fUndone)  {r:TSession × Int} (h:wardmoteref26_Undo_p n a0 a1 a2 = some r) :
    Calls Tryz.prog 33 #[.agg #[vI a0.fN,v0_1],.agg #[vI a1.fGroups,vI a1.fParties,vI a1.fLevels,v1_3],.agg #[vI a2.fK,v2_1,v2_2,v2_3,v2_4]] w (Gives w fun w' u=>∃ v0_1 v0_2 v0_3 v0_4:Value,u = .tuple #[.agg #[vI r.1.fK,v0_1,v0_2,v0_3,v0_4],vI r.2]∧Rep.R w' L [v0_1] r.1.fPlan∧Rep.R w' L [v0_2] r.1.fTotals∧Rep.R w' L [v0_3] r.1.fDone∧Rep.R w' L [v0_4] r.1.fUndone):=by
 unfold wardmoteref26_Undo_p at h
 have hS0:=AK w
 refine AM Tryz.func33 rfl rfl rfl (fun _ cs0 hb0=>?_)
 refine Ae<|Az .plain rfl (AI hS0 rfl rfl) (fun w2 b5 hS3 hT4=>?_)
 refine Az .plain rfl (AI hS3 rfl rfl) (fun w7 V2 hS8 hT9=>?_)
 refine Az .plain rfl (AI hS8 rfl rfl) (fun Q6 W2 c3 z6=>?_)
 refine Az .plain rfl (AX [vI 0,vN,vN,vN,vN] c3) (fun R6 v1 D0 A6=>?_)
 refine Ag rfl<|Aa<|Ak<|Ae<|Ab (AG rfl (D0.memA (.tl (.tl (.tl .hd)))))<|Ab (AG rfl (D0.memA (.tl (.tl .hd))))<|Ab (AG rfl (D0.memA (.tl .hd))) ?_
 obtain ⟨U2,j6,h⟩:=bi h
 refine BE (vI U2) body21 rfl (e3 rfl rfl rfl) (fun w9 hw9=>wardmoteref26_Check_c n _ w9 (D0.hL0 hL hw9) a0 (D0.k0 h0_1 hw9) a1 (D0.k0 h1_3 hw9) a2 (D0.k0 h2_1 hw9) (D0.k0 h2_2 hw9) (D0.k0 h2_3 hw9) (D0.k0 h2_4 hw9) j6) rfl<|Ag rfl<|Aa<|Ae<|Ac rfl<|Ab (BO (i:=U2) (j:=0) rfl rfl)<|Aa<|BV rfl h (fun Y2 h=>?_) (fun Y2 h=>?_)
 refine Ao<|Ae<|AH 3 rfl<|AS rfl ((D0.memA (.tl .hd)) 3 _ rfl) ?_
 have k2:=Ax h2_3 D0
 have I6:a2.fDone.length ≤ 281474976710656:=AZ k2
 refine Ab (Bj (xs:=a2.fDone) Tryz.underlying46 rfl k2)<|Ag rfl<|Aa<|Ak<|Ae<|Ac rfl<|Ab (BR (i:=a2.fDone.length) (j:=0) rfl rfl)<|Aa<|AW rfl h (fun Z2 h=>?_) (fun Z2 h=>?_)
 refine Ae<|Ab (AV (vs:=[]) (u:=.agg #[vI 0,vN,vN,vN,vN]) evs_nil (fun w9=>by kernel_rfl))<|Bk [vI 0,vN,vN,vN,vN] D0 .hd (onesB rfl) (fun Y6 Z0 C6=>?_)
 refine Ag rfl<|Aa<|Am rfl ?_
 have K2:=AL (α:=Int) Z0 L
 have M2:=AL (α:=TMove) Z0 L
 refine Ay hb0 Tryz.func33 rfl (.cons (.many (cs:=[vI 0,vN,vN,vN,vN]) (by kernel_rfl) rfl (Z0.memA .hd)) (.cons (.tmp rfl) .nil)) rfl ?_
 cases h
 exact ⟨Z0.ag,fun w9 hw9=>⟨vN,vN,vN,vN,rfl,Z0.kd K2 hw9,Z0.kd K2 hw9,Z0.kd M2 hw9,Z0.kd M2 hw9⟩⟩
 refine Ao<|Ak<|Ae<|AH 4 rfl<|AS rfl ((D0.memA (.tl .hd)) 4 _ rfl) ?_
 have C2:=Ax h2_4 D0
 have J6:a2.fUndone.length ≤ 281474976710656:=AZ C2
 refine Ab (Bj (xs:=a2.fUndone) Tryz.underlying46 rfl C2)<|Ab (BR (i:=a2.fUndone.length) (j:=200) rfl rfl)<|Aa<|AW rfl h (fun b3 h=>?_) (fun b3 h=>?_)
 refine Ae<|Ab (AV (vs:=[]) (u:=.agg #[vI 0,vN,vN,vN,vN]) evs_nil (fun w9=>by kernel_rfl))<|Bk [vI 0,vN,vN,vN,vN] D0 .hd (onesB rfl) (fun Z6 b1 D6=>?_)
 refine Ag rfl<|Aa<|Am rfl ?_
 have P2:=AL (α:=Int) b1 L
 have Q2:=AL (α:=TMove) b1 L
 refine Ay hb0 Tryz.func33 rfl (.cons (.many (cs:=[vI 0,vN,vN,vN,vN]) (by kernel_rfl) rfl (b1.memA .hd)) (.cons (.tmp rfl) .nil)) rfl ?_
 cases h
 exact ⟨b1.ag,fun w9 hw9=>⟨vN,vN,vN,vN,rfl,b1.kd P2 hw9,b1.kd P2 hw9,b1.kd Q2 hw9,b1.kd Q2 hw9⟩⟩
 refine Ao<|Ae<|AH 3 rfl<|AS rfl ((D0.memA (.tl .hd)) 3 _ rfl)<|Ac rfl<|Ab (FV.subI (i:=((a2.fDone.length:Nat):Int)) (j:=1) rfl rfl (by omega)) ?_
 obtain ⟨b0,b6,h⟩:=bi h
 obtain ⟨V3,c6⟩:=idx_in b6
 obtain ⟨u6,v6,U3,W3,y6,W5,q5⟩:=Bb k2 c6
 obtain rfl:=op_TMove W5
 refine Ab (FV.idxAddr (m:=3) (i:=(((a2.fDone.length:Nat):Int) - 1).toNat) (by kernel_rfl) rfl U3 rfl V3 W3)<|Ab (AG rfl q5)<|Az .plain rfl (AX [vI 0,vI 0,vI 0] D0) (fun b7 X2 G3 E6=>?_)
 refine Bk [vI b0.fUnit,vI b0.fFrom,vI b0.fTo] G3 .hd (onesB rfl) (fun c7 p1 F6=>?_)
 refine Aa<|Ae<|AH 1 rfl<|AS rfl ((p1.memA (.tl (.tl .hd))) 1 _ rfl)<|AH 0 rfl<|AS rfl ((p1.memA .hd) 0 _ rfl)<|AH 2 rfl<|AS rfl ((p1.memA .hd) 2 _ rfl)<|AH 1 rfl<|AS rfl ((p1.memA .hd) 1 _ rfl) ?_
 obtain ⟨t6,k6,h⟩:=bi h
 refine Bx (fst:=[]) (cap:=[]) .plain body43 rfl (e4 rfl rfl rfl rfl) (fun w9 hw9=>wardmoteref26_put_c n _ w9 (p1.hL hL hw9) a2.fPlan (p1.km h2_1 hw9) b0.fUnit b0.fTo b0.fFrom k6) rfl (fun d7 M6 K3 ⟨K6,hu_,X5⟩=>?_)
 subst hu_
 obtain ⟨W0,G6⟩:=p1.agr K3
 refine Ac rfl<|Ab (Au rfl rfl)<|Ab (Au rfl rfl)<|Ag rfl<|Ag rfl<|Aa<|Ae<|Ab (AG rfl (W0.memA (.tl (.tl (.tl .hd)))))<|Ab (AG rfl (W0.memA (.tl (.tl .hd))))<|Ac rfl ?_
 obtain ⟨U0,p6,h⟩:=bi h
 refine Bx (fst:=[]) (cap:=[]) .plain body44 rfl (e3 rfl rfl rfl) (fun w9 hw9=>wardmoteref26_with_c n _ w9 (W0.hL hL hw9) a1 (W0.km h1_3 hw9) a2 (W0.km h2_1 hw9) (W0.km h2_2 hw9) (W0.km h2_3 hw9) (W0.km h2_4 hw9) t6.1 (Av X5 hw9) p6) rfl (fun g7 P6 M3 ⟨M0,P0,R2,X0,hu_,q2,s2,Y5,Z5⟩=>?_)
 subst hu_
 obtain ⟨H3,H6⟩:=W0.agr M3
 refine Az .plain rfl (AX [vI 0,vN,vN,vN,vN] H3) (fun j7 x1 I3 z1=>?_)
 have s5:=Aj q2 z1
 have t5:=Aj s2 z1
 have u5:=Aj Y5 z1
 have v5:=Aj Z5 z1
 refine Bk [vI U0.fK,M0,P0,R2,X0] I3 .hd (o5 rfl (AP s5) (AP t5) (AP u5) (AP v5)) (fun k7 H1 J3=>?_)
 refine Aa<|Ae<|AH 3 rfl<|Ab (AA rfl ((H1.memA (.tl (.tl (.tl .hd)))) 3 _ rfl))<|Ac rfl<|Ab (FV.subI (i:=((a2.fDone.length:Nat):Int)) (j:=1) rfl rfl (by omega)) ?_
 obtain ⟨p7,g6,h⟩:=bi h
 have x5:=Ax h2_3 H1
 refine RG.valE .plain rfl (FV.cutL (α:=TMove) g6 (by kernel_rfl) rfl x5 rfl ⟨_,rfl⟩) (fun R0 D1=>?_)
 refine AH 3 rfl<|BG .plain (Br (j:=3) (old:=[vI U0.fK,M0,P0,R2,X0]) (news:=[R0]) (new' :=[vI U0.fK,M0,P0,R0,X0]) H1 .hd rfl rfl rfl (Rep.c1 D1) rfl rfl (o1 (AP D1)) rfl) (fun q6 Q0 B2=>?_)
 refine Aa<|Ak<|Bm 3 tb33_13 (by kernel_rfl) (by kernel_rfl) (by kernel_rfl) (fun c0 A1=>?_)
 refine Ah 1 2 c0 rfl A1 (fun _=>Bt 4 rfl) rfl ?_
 obtain ⟨C1,E0,h⟩:=bi h
 refine RD.meet (α:=Value × (List Value) × Value × (List Value)) (fun ⟨q1,g1,s1,j1⟩=>[(6,vP v1),(13,vP x1),(64,s1),(66,q1)]) (fun ⟨q1,g1,s1,j1⟩ B1=>St w B1 [.row w.heap.size 62 (Rep.size TMove) q1 (([b0]:List TMove).length) g1,.row w.heap.size 62 (Rep.size TMove) s1 C1.length j1,.cells x1 [vI U0.fK,M0,P0,R0,X0] 48,.cells v1 [vI 0,vN,vN,vN,vN] 48]∧Tr q6 [.cells x1 [vI U0.fK,M0,P0,R0,X0] 48,.cells X2 [vI b0.fUnit,vI b0.fFrom,vI b0.fTo] 62,.cells v1 [vI 0,vN,vN,vN,vN] 48,.cells W2 [vI a2.fK,v2_1,v2_2,v2_3,v2_4] 48,.cells V2 [vI a1.fGroups,vI a1.fParties,vI a1.fLevels,v1_3] 41,.cells b5 [vI a0.fN,v0_1] 38] B1 [.row w.heap.size 62 (Rep.size TMove) q1 (([b0]:List TMove).length) g1,.row w.heap.size 62 (Rep.size TMove) s1 C1.length j1,.cells x1 [vI U0.fK,M0,P0,R0,X0] 48,.cells v1 [vI 0,vN,vN,vN,vN] 48]∧Cells B1 (bl [.row w.heap.size 62 (Rep.size TMove) q1 (([b0]:List TMove).length) g1,.row w.heap.size 62 (Rep.size TMove) s1 C1.length j1,.cells x1 [vI U0.fK,M0,P0,R0,X0] 48,.cells v1 [vI 0,vN,vN,vN,vN] 48] ++ L) g1 (([b0]:List TMove):List TMove)∧Cells B1 (bl [.row w.heap.size 62 (Rep.size TMove) q1 (([b0]:List TMove).length) g1,.row w.heap.size 62 (Rep.size TMove) s1 C1.length j1,.cells x1 [vI U0.fK,M0,P0,R0,X0] 48,.cells v1 [vI 0,vN,vN,vN,vN] 48] ++ L) j1 (C1:List TMove)) 3 63 ?_ ?_
 rintro ⟨q1,g1,s1,j1⟩ B1 ⟨t2,u2,P3,Q3⟩
 try dsimp only
 obtain ⟨s6,d6,h⟩:=bi h
 refine BD (i:=6) (readyD_ok c0 (by kernel_rfl)) (Bo (m' :=127) (stepC_ok c0 (by kernel_rfl)) rfl rfl .plain rfl (AR (α:=TMove) (ys:=([b0]:List TMove)) d6 t2 (fun _ _=>(.tl .hd)) el46 rfl rfl Q3 (Src.row (α:=TMove) t2 .hd P3)) (fun y1 U6 ⟨x6,E1,v2,R3⟩=>?_))
 refine Ah 7 255 c0 rfl A1 (fun _=>Bt 4 rfl) rfl<|RD.nw 8 511 c0 rfl rfl .plain (Br (j:=4) (old:=[vI U0.fK,M0,P0,R0,X0]) (news:=[y1]) (new' :=[vI U0.fK,M0,P0,R0,y1]) E1 (.tl (.tl .hd)) rfl rfl rfl (St.c1 (α:=TMove) E1 (.tl .hd)) rfl rfl (o1 (Bz (α:=TMove) E1 (.tl .hd))) rfl) (fun V6 F1 I1=>?_)
 refine Bc (doneD_ok c0 (by kernel_rfl))<|Ae<|Ab (AG rfl (F1.memA (.tl (.tl .hd)))) ?_
 have p2:=Tt z1 (Tt J3 (Tt B2 (Tt u2 (Tt v2 I1))))
 have X3:=Aj q2 p2
 have Y3:=Aj s2 p2
 have D2:=Tt B2 (Tt u2 (Tt v2 I1))
 have Z3:=Aj D1 D2
 refine Bk [vI U0.fK,M0,P0,R0,y1] F1 (.tl (.tl (.tl .hd))) (o5 rfl (AP X3) (AP Y3) (AP Z3) (Bz (α:=TMove) F1 (.tl .hd))) (fun W6 G1 J1=>?_)
 refine Ag rfl<|Aa<|Am rfl ?_
 have b4:=Al R3 (Tt I1 J1)
 have U5:=AQ (α:=TMove) G1 (.tl .hd) b4 hL
 have k1:=Bf G1 (.tl .hd)
 have x2:=Bg G1 (.tl .hd)
 have V5:=Bh (α:=TMove) (v:=y1) (xs:=s6) k1 L U5
 refine Ay hb0 Tryz.func33 rfl (.cons (.many (cs:=[vI U0.fK,M0,P0,R0,y1]) (by kernel_rfl) rfl (k1.memA (.tl (.tl .hd)))) (.cons (.tmp rfl) .nil)) rfl ?_
 cases h
 have E2:=Tt p2 (Tt J1 x2)
 have c4:=Aj q2 E2
 have d4:=Aj s2 E2
 have y5:=Tt D2 (Tt J1 x2)
 have g4:=Aj D1 y5
 exact ⟨k1.ag,fun w9 hw9=>⟨M0,P0,R0,y1,rfl,k1.kd c4 hw9,k1.kd d4 hw9,k1.kd g4 hw9,k1.kd V5 hw9⟩⟩
 intro C0
 refine Bv [0,2,4] (readyD_ok c0 (by kernel_rfl)) ⟨?_,?_,?_,trivial⟩
 refine BI (m' :=3) (stepC_ok c0 (by kernel_rfl)) rfl .plain rfl (AE (α:=TMove) (xs:=([]:List TMove)) (vs:=[]) (ds' :=[]) rfl Q0 el46 rfl evs_nil (by kernel_rfl) rfl) (fun u1 d1 j0 t0=>?_)
 have u0:=Ar (cs:=[]) (xs:=(([]:List TMove):List TMove)) j0 L (AC _ _)
 refine Bv [2,4] (readyD_ok c0 (by kernel_rfl)) ⟨?_,?_,trivial⟩
 refine BW (m' :=7) (stepC_ok c0 (by kernel_rfl)) rfl .plain rfl (AA rfl ((j0.memA (.tl (.tl (.tl (.tl .hd))))) 4 _ rfl))<|Bv [3,4] (readyD_ok c0 (by kernel_rfl)) ⟨?_,?_,trivial⟩
 have s0:=Ax h2_4 j0
 refine Bo (m' :=15) (stepC_ok c0 (by kernel_rfl)) rfl rfl .plain rfl (AR (α:=TMove) (ys:=a2.fUndone) E0 j0 (fun _ _=>.hd) el46 rfl rfl u0 (Bw s0)) (fun B0 V0 ⟨y0,v0,z0,A0⟩=>?_)
 refine BD (i:=4) (readyD_ok c0 (by kernel_rfl)) (BW (m' :=31) (stepC_ok c0 (by kernel_rfl)) rfl .plain rfl (AG rfl (v0.memA (.tl (.tl .hd)))) ?_)
 refine RD.nu 5 63 c0 rfl .plain rfl (AE (α:=TMove) (xs:=([b0]:List TMove)) (vs:=[.agg #[vI b0.fUnit,vI b0.fFrom,vI b0.fTo]]) (ds' :=[vI b0.fUnit,vI b0.fFrom,vI b0.fTo]) rfl v0 el46 rfl (e1 rfl) (by kernel_rfl) rfl) (fun F0 p0 d0 g0=>?_)
 have q0:=Ar (cs:=[vI b0.fUnit,vI b0.fFrom,vI b0.fTo]) (xs:=(([b0]:List TMove):List TMove)) d0 L (Aq (cs:=[vI b0.fUnit,vI b0.fFrom,vI b0.fTo]) (ds:=[]) (mk_TMove b0.fUnit b0.fFrom b0.fTo) (AC _ _))
 obtain ⟨d3,K1⟩:=AD d0 (.one .hd (.one .hd (.one .hd (.one (.tl .hd) .done))))
 have j4:=Al q0 K1
 have k4:=Al A0 (Tt g0 K1)
 have z5:=Tt t0 (Tt z0 (Tt g0 K1))
 exact C0 ((vS p0 1),[vI b0.fUnit,vI b0.fFrom,vI b0.fTo],B0,y0) _ _ ⟨rfl,rfl,rfl,rfl,trivial⟩ ⟨d3,z5,j4,k4⟩
 refine BW (m' :=23) (stepC_ok c0 (by kernel_rfl)) rfl .plain rfl (AG rfl (j0.memA (.tl (.tl .hd))))<|Bv [3,5] (readyD_ok c0 (by kernel_rfl)) ⟨?_,?_,trivial⟩
 have s0:=Ax h2_4 j0
 refine Bo (m' :=31) (stepC_ok c0 (by kernel_rfl)) rfl rfl .plain rfl (AR (α:=TMove) (ys:=a2.fUndone) E0 j0 (fun _ _=>.hd) el46 rfl rfl u0 (Bw s0)) (fun B0 V0 ⟨y0,v0,z0,A0⟩=>?_)
 refine RD.nu 5 63 c0 rfl .plain rfl (AE (α:=TMove) (xs:=([b0]:List TMove)) (vs:=[.agg #[vI b0.fUnit,vI b0.fFrom,vI b0.fTo]]) (ds' :=[vI b0.fUnit,vI b0.fFrom,vI b0.fTo]) rfl v0 el46 rfl (e1 rfl) (by kernel_rfl) rfl) (fun F0 p0 d0 g0=>?_)
 have q0:=Ar (cs:=[vI b0.fUnit,vI b0.fFrom,vI b0.fTo]) (xs:=(([b0]:List TMove):List TMove)) d0 L (Aq (cs:=[vI b0.fUnit,vI b0.fFrom,vI b0.fTo]) (ds:=[]) (mk_TMove b0.fUnit b0.fFrom b0.fTo) (AC _ _))
 obtain ⟨g3,M1⟩:=AD d0 (.one .hd (.one .hd (.one .hd (.one (.tl .hd) .done))))
 have p4:=Al q0 M1
 have q4:=Al A0 (Tt g0 M1)
 have A5:=Tt t0 (Tt z0 (Tt g0 M1))
 exact C0 ((vS p0 1),[vI b0.fUnit,vI b0.fFrom,vI b0.fTo],B0,y0) _ _ ⟨rfl,rfl,rfl,rfl,trivial⟩ ⟨g3,A5,p4,q4⟩
 refine BI (m' :=55) (stepC_ok c0 (by kernel_rfl)) rfl .plain rfl (AE (α:=TMove) (xs:=([b0]:List TMove)) (vs:=[.agg #[vI b0.fUnit,vI b0.fFrom,vI b0.fTo]]) (ds' :=[vI b0.fUnit,vI b0.fFrom,vI b0.fTo]) rfl j0 el46 rfl (e1 rfl) (by kernel_rfl) rfl) (fun F0 p0 d0 g0=>?_)
 have q0:=Ar (cs:=[vI b0.fUnit,vI b0.fFrom,vI b0.fTo]) (xs:=(([b0]:List TMove):List TMove)) d0 L (Aq (cs:=[vI b0.fUnit,vI b0.fFrom,vI b0.fTo]) (ds:=[]) (mk_TMove b0.fUnit b0.fFrom b0.fTo) (AC _ _))
 have s0:=Ax h2_4 d0
 have J0:=Al u0 g0
 refine BD (i:=3) (readyD_ok c0 (by kernel_rfl)) (Bo (m' :=63) (stepC_ok c0 (by kernel_rfl)) rfl rfl .plain rfl (AR (α:=TMove) (ys:=a2.fUndone) E0 d0 (fun _ _=>(.tl .hd)) el46 rfl rfl J0 (Bw s0)) (fun K0 t1 ⟨G0,H0,x0,I0⟩=>?_))
 obtain ⟨j3,P1⟩:=AD H0 (.one .hd (.one .hd (.one .hd (.one (.tl .hd) .done))))
 have s4:=Al q0 (Tt x0 P1)
 have t4:=Al I0 P1
 have B5:=Tt t0 (Tt g0 (Tt x0 P1))
 exact C0 ((vS p0 1),[vI b0.fUnit,vI b0.fFrom,vI b0.fTo],K0,G0) _ _ ⟨rfl,rfl,rfl,rfl,trivial⟩ ⟨j3,B5,s4,t4⟩
 refine BW (m' :=19) (stepC_ok c0 (by kernel_rfl)) rfl .plain rfl (AG rfl (j0.memA (.tl (.tl .hd))))<|Bv [2,5] (readyD_ok c0 (by kernel_rfl)) ⟨?_,?_,trivial⟩
 refine BW (m' :=23) (stepC_ok c0 (by kernel_rfl)) rfl .plain rfl (AA rfl ((j0.memA (.tl (.tl (.tl (.tl .hd))))) 4 _ rfl))<|Bv [3,5] (readyD_ok c0 (by kernel_rfl)) ⟨?_,?_,trivial⟩
 have s0:=Ax h2_4 j0
 refine Bo (m' :=31) (stepC_ok c0 (by kernel_rfl)) rfl rfl .plain rfl (AR (α:=TMove) (ys:=a2.fUndone) E0 j0 (fun _ _=>.hd) el46 rfl rfl u0 (Bw s0)) (fun B0 V0 ⟨y0,v0,z0,A0⟩=>?_)
 refine RD.nu 5 63 c0 rfl .plain rfl (AE (α:=TMove) (xs:=([b0]:List TMove)) (vs:=[.agg #[vI b0.fUnit,vI b0.fFrom,vI b0.fTo]]) (ds' :=[vI b0.fUnit,vI b0.fFrom,vI b0.fTo]) rfl v0 el46 rfl (e1 rfl) (by kernel_rfl) rfl) (fun F0 p0 d0 g0=>?_)
 have q0:=Ar (cs:=[vI b0.fUnit,vI b0.fFrom,vI b0.fTo]) (xs:=(([b0]:List TMove):List TMove)) d0 L (Aq (cs:=[vI b0.fUnit,vI b0.fFrom,vI b0.fTo]) (ds:=[]) (mk_TMove b0.fUnit b0.fFrom b0.fTo) (AC _ _))
 obtain ⟨k3,Q1⟩:=AD d0 (.one .hd (.one .hd (.one .hd (.one (.tl .hd) .done))))
 have u4:=Al q0 Q1
 have v4:=Al A0 (Tt g0 Q1)
 have C5:=Tt t0 (Tt z0 (Tt g0 Q1))
 exact C0 ((vS p0 1),[vI b0.fUnit,vI b0.fFrom,vI b0.fTo],B0,y0) _ _ ⟨rfl,rfl,rfl,rfl,trivial⟩ ⟨k3,C5,u4,v4⟩
 refine BI (m' :=55) (stepC_ok c0 (by kernel_rfl)) rfl .plain rfl (AE (α:=TMove) (xs:=([b0]:List TMove)) (vs:=[.agg #[vI b0.fUnit,vI b0.fFrom,vI b0.fTo]]) (ds' :=[vI b0.fUnit,vI b0.fFrom,vI b0.fTo]) rfl j0 el46 rfl (e1 rfl) (by kernel_rfl) rfl) (fun F0 p0 d0 g0=>?_)
 have q0:=Ar (cs:=[vI b0.fUnit,vI b0.fFrom,vI b0.fTo]) (xs:=(([b0]:List TMove):List TMove)) d0 L (Aq (cs:=[vI b0.fUnit,vI b0.fFrom,vI b0.fTo]) (ds:=[]) (mk_TMove b0.fUnit b0.fFrom b0.fTo) (AC _ _))
 have s0:=Ax h2_4 d0
 have J0:=Al u0 g0
 refine BD (i:=3) (readyD_ok c0 (by kernel_rfl)) (Bo (m' :=63) (stepC_ok c0 (by kernel_rfl)) rfl rfl .plain rfl (AR (α:=TMove) (ys:=a2.fUndone) E0 d0 (fun _ _=>(.tl .hd)) el46 rfl rfl J0 (Bw s0)) (fun K0 t1 ⟨G0,H0,x0,I0⟩=>?_))
 obtain ⟨p3,R1⟩:=AD H0 (.one .hd (.one .hd (.one .hd (.one (.tl .hd) .done))))
 have x4:=Al q0 (Tt x0 R1)
 have y4:=Al I0 R1
 have D5:=Tt t0 (Tt g0 (Tt x0 R1))
 exact C0 ((vS p0 1),[vI b0.fUnit,vI b0.fFrom,vI b0.fTo],K0,G0) _ _ ⟨rfl,rfl,rfl,rfl,trivial⟩ ⟨p3,D5,x4,y4⟩
 refine BI (m' :=51) (stepC_ok c0 (by kernel_rfl)) rfl .plain rfl (AE (α:=TMove) (xs:=([b0]:List TMove)) (vs:=[.agg #[vI b0.fUnit,vI b0.fFrom,vI b0.fTo]]) (ds' :=[vI b0.fUnit,vI b0.fFrom,vI b0.fTo]) rfl j0 el46 rfl (e1 rfl) (by kernel_rfl) rfl) (fun F0 p0 d0 g0=>?_)
 have q0:=Ar (cs:=[vI b0.fUnit,vI b0.fFrom,vI b0.fTo]) (xs:=(([b0]:List TMove):List TMove)) d0 L (Aq (cs:=[vI b0.fUnit,vI b0.fFrom,vI b0.fTo]) (ds:=[]) (mk_TMove b0.fUnit b0.fFrom b0.fTo) (AC _ _))
 refine AT 2 55 456 c0 rfl A1 (AA rfl ((d0.memA (.tl (.tl (.tl (.tl (.tl .hd)))))) 4 _ rfl)) rfl ?_
 have s0:=Ax h2_4 d0
 have J0:=Al u0 g0
 refine BD (i:=3) (readyD_ok c0 (by kernel_rfl)) (Bo (m' :=63) (stepC_ok c0 (by kernel_rfl)) rfl rfl .plain rfl (AR (α:=TMove) (ys:=a2.fUndone) E0 d0 (fun _ _=>(.tl .hd)) el46 rfl rfl J0 (Bw s0)) (fun K0 t1 ⟨G0,H0,x0,I0⟩=>?_))
 obtain ⟨q3,U1⟩:=AD H0 (.one .hd (.one .hd (.one .hd (.one (.tl .hd) .done))))
 have z4:=Al q0 (Tt x0 U1)
 have A4:=Al I0 U1
 have E5:=Tt t0 (Tt g0 (Tt x0 U1))
 exact C0 ((vS p0 1),[vI b0.fUnit,vI b0.fFrom,vI b0.fTo],K0,G0) _ _ ⟨rfl,rfl,rfl,rfl,trivial⟩ ⟨q3,E5,z4,A4⟩
 refine BW (m' :=6) (stepC_ok c0 (by kernel_rfl)) rfl .plain rfl (AA rfl ((Q0.memA (.tl (.tl (.tl .hd)))) 4 _ rfl))<|Bv [0,4] (readyD_ok c0 (by kernel_rfl)) ⟨?_,?_,trivial⟩
 refine BI (m' :=7) (stepC_ok c0 (by kernel_rfl)) rfl .plain rfl (AE (α:=TMove) (xs:=([]:List TMove)) (vs:=[]) (ds' :=[]) rfl Q0 el46 rfl evs_nil (by kernel_rfl) rfl) (fun u1 d1 j0 t0=>?_)
 have u0:=Ar (cs:=[]) (xs:=(([]:List TMove):List TMove)) j0 L (AC _ _)
 refine Bv [3,4] (readyD_ok c0 (by kernel_rfl)) ⟨?_,?_,trivial⟩
 have s0:=Ax h2_4 j0
 refine Bo (m' :=15) (stepC_ok c0 (by kernel_rfl)) rfl rfl .plain rfl (AR (α:=TMove) (ys:=a2.fUndone) E0 j0 (fun _ _=>.hd) el46 rfl rfl u0 (Bw s0)) (fun B0 V0 ⟨y0,v0,z0,A0⟩=>?_)
 refine BD (i:=4) (readyD_ok c0 (by kernel_rfl)) (BW (m' :=31) (stepC_ok c0 (by kernel_rfl)) rfl .plain rfl (AG rfl (v0.memA (.tl (.tl .hd)))) ?_)
 refine RD.nu 5 63 c0 rfl .plain rfl (AE (α:=TMove) (xs:=([b0]:List TMove)) (vs:=[.agg #[vI b0.fUnit,vI b0.fFrom,vI b0.fTo]]) (ds' :=[vI b0.fUnit,vI b0.fFrom,vI b0.fTo]) rfl v0 el46 rfl (e1 rfl) (by kernel_rfl) rfl) (fun F0 p0 d0 g0=>?_)
 have q0:=Ar (cs:=[vI b0.fUnit,vI b0.fFrom,vI b0.fTo]) (xs:=(([b0]:List TMove):List TMove)) d0 L (Aq (cs:=[vI b0.fUnit,vI b0.fFrom,vI b0.fTo]) (ds:=[]) (mk_TMove b0.fUnit b0.fFrom b0.fTo) (AC _ _))
 obtain ⟨s3,V1⟩:=AD d0 (.one .hd (.one .hd (.one .hd (.one (.tl .hd) .done))))
 have B4:=Al q0 V1
 have C4:=Al A0 (Tt g0 V1)
 have F5:=Tt t0 (Tt z0 (Tt g0 V1))
 exact C0 ((vS p0 1),[vI b0.fUnit,vI b0.fFrom,vI b0.fTo],B0,y0) _ _ ⟨rfl,rfl,rfl,rfl,trivial⟩ ⟨s3,F5,B4,C4⟩
 refine BW (m' :=23) (stepC_ok c0 (by kernel_rfl)) rfl .plain rfl (AG rfl (j0.memA (.tl (.tl .hd))))<|Bv [3,5] (readyD_ok c0 (by kernel_rfl)) ⟨?_,?_,trivial⟩
 have s0:=Ax h2_4 j0
 refine Bo (m' :=31) (stepC_ok c0 (by kernel_rfl)) rfl rfl .plain rfl (AR (α:=TMove) (ys:=a2.fUndone) E0 j0 (fun _ _=>.hd) el46 rfl rfl u0 (Bw s0)) (fun B0 V0 ⟨y0,v0,z0,A0⟩=>?_)
 refine RD.nu 5 63 c0 rfl .plain rfl (AE (α:=TMove) (xs:=([b0]:List TMove)) (vs:=[.agg #[vI b0.fUnit,vI b0.fFrom,vI b0.fTo]]) (ds' :=[vI b0.fUnit,vI b0.fFrom,vI b0.fTo]) rfl v0 el46 rfl (e1 rfl) (by kernel_rfl) rfl) (fun F0 p0 d0 g0=>?_)
 have q0:=Ar (cs:=[vI b0.fUnit,vI b0.fFrom,vI b0.fTo]) (xs:=(([b0]:List TMove):List TMove)) d0 L (Aq (cs:=[vI b0.fUnit,vI b0.fFrom,vI b0.fTo]) (ds:=[]) (mk_TMove b0.fUnit b0.fFrom b0.fTo) (AC _ _))
 obtain ⟨t3,W1⟩:=AD d0 (.one .hd (.one .hd (.one .hd (.one (.tl .hd) .done))))
 have D4:=Al q0 W1
 have E4:=Al A0 (Tt g0 W1)
 have G5:=Tt t0 (Tt z0 (Tt g0 W1))
 exact C0 ((vS p0 1),[vI b0.fUnit,vI b0.fFrom,vI b0.fTo],B0,y0) _ _ ⟨rfl,rfl,rfl,rfl,trivial⟩ ⟨t3,G5,D4,E4⟩
 refine BI (m' :=55) (stepC_ok c0 (by kernel_rfl)) rfl .plain rfl (AE (α:=TMove) (xs:=([b0]:List TMove)) (vs:=[.agg #[vI b0.fUnit,vI b0.fFrom,vI b0.fTo]]) (ds' :=[vI b0.fUnit,vI b0.fFrom,vI b0.fTo]) rfl j0 el46 rfl (e1 rfl) (by kernel_rfl) rfl) (fun F0 p0 d0 g0=>?_)
 have q0:=Ar (cs:=[vI b0.fUnit,vI b0.fFrom,vI b0.fTo]) (xs:=(([b0]:List TMove):List TMove)) d0 L (Aq (cs:=[vI b0.fUnit,vI b0.fFrom,vI b0.fTo]) (ds:=[]) (mk_TMove b0.fUnit b0.fFrom b0.fTo) (AC _ _))
 have s0:=Ax h2_4 d0
 have J0:=Al u0 g0
 refine BD (i:=3) (readyD_ok c0 (by kernel_rfl)) (Bo (m' :=63) (stepC_ok c0 (by kernel_rfl)) rfl rfl .plain rfl (AR (α:=TMove) (ys:=a2.fUndone) E0 d0 (fun _ _=>(.tl .hd)) el46 rfl rfl J0 (Bw s0)) (fun K0 t1 ⟨G0,H0,x0,I0⟩=>?_))
 obtain ⟨u3,X1⟩:=AD H0 (.one .hd (.one .hd (.one .hd (.one (.tl .hd) .done))))
 have F4:=Al q0 (Tt x0 X1)
 have G4:=Al I0 X1
 have H5:=Tt t0 (Tt g0 (Tt x0 X1))
 exact C0 ((vS p0 1),[vI b0.fUnit,vI b0.fFrom,vI b0.fTo],K0,G0) _ _ ⟨rfl,rfl,rfl,rfl,trivial⟩ ⟨u3,H5,F4,G4⟩
 refine BW (m' :=22) (stepC_ok c0 (by kernel_rfl)) rfl .plain rfl (AG rfl (Q0.memA (.tl .hd)))<|Bv [0,5] (readyD_ok c0 (by kernel_rfl)) ⟨?_,?_,trivial⟩
 refine BI (m' :=23) (stepC_ok c0 (by kernel_rfl)) rfl .plain rfl (AE (α:=TMove) (xs:=([]:List TMove)) (vs:=[]) (ds' :=[]) rfl Q0 el46 rfl evs_nil (by kernel_rfl) rfl) (fun u1 d1 j0 t0=>?_)
 have u0:=Ar (cs:=[]) (xs:=(([]:List TMove):List TMove)) j0 L (AC _ _)
 refine Bv [3,5] (readyD_ok c0 (by kernel_rfl)) ⟨?_,?_,trivial⟩
 have s0:=Ax h2_4 j0
 refine Bo (m' :=31) (stepC_ok c0 (by kernel_rfl)) rfl rfl .plain rfl (AR (α:=TMove) (ys:=a2.fUndone) E0 j0 (fun _ _=>.hd) el46 rfl rfl u0 (Bw s0)) (fun B0 V0 ⟨y0,v0,z0,A0⟩=>?_)
 refine RD.nu 5 63 c0 rfl .plain rfl (AE (α:=TMove) (xs:=([b0]:List TMove)) (vs:=[.agg #[vI b0.fUnit,vI b0.fFrom,vI b0.fTo]]) (ds' :=[vI b0.fUnit,vI b0.fFrom,vI b0.fTo]) rfl v0 el46 rfl (e1 rfl) (by kernel_rfl) rfl) (fun F0 p0 d0 g0=>?_)
 have q0:=Ar (cs:=[vI b0.fUnit,vI b0.fFrom,vI b0.fTo]) (xs:=(([b0]:List TMove):List TMove)) d0 L (Aq (cs:=[vI b0.fUnit,vI b0.fFrom,vI b0.fTo]) (ds:=[]) (mk_TMove b0.fUnit b0.fFrom b0.fTo) (AC _ _))
 obtain ⟨v3,Y1⟩:=AD d0 (.one .hd (.one .hd (.one .hd (.one (.tl .hd) .done))))
 have H4:=Al q0 Y1
 have I4:=Al A0 (Tt g0 Y1)
 have I5:=Tt t0 (Tt z0 (Tt g0 Y1))
 exact C0 ((vS p0 1),[vI b0.fUnit,vI b0.fFrom,vI b0.fTo],B0,y0) _ _ ⟨rfl,rfl,rfl,rfl,trivial⟩ ⟨v3,I5,H4,I4⟩
 refine BI (m' :=55) (stepC_ok c0 (by kernel_rfl)) rfl .plain rfl (AE (α:=TMove) (xs:=([b0]:List TMove)) (vs:=[.agg #[vI b0.fUnit,vI b0.fFrom,vI b0.fTo]]) (ds' :=[vI b0.fUnit,vI b0.fFrom,vI b0.fTo]) rfl j0 el46 rfl (e1 rfl) (by kernel_rfl) rfl) (fun F0 p0 d0 g0=>?_)
 have q0:=Ar (cs:=[vI b0.fUnit,vI b0.fFrom,vI b0.fTo]) (xs:=(([b0]:List TMove):List TMove)) d0 L (Aq (cs:=[vI b0.fUnit,vI b0.fFrom,vI b0.fTo]) (ds:=[]) (mk_TMove b0.fUnit b0.fFrom b0.fTo) (AC _ _))
 have s0:=Ax h2_4 d0
 have J0:=Al u0 g0
 refine BD (i:=3) (readyD_ok c0 (by kernel_rfl)) (Bo (m' :=63) (stepC_ok c0 (by kernel_rfl)) rfl rfl .plain rfl (AR (α:=TMove) (ys:=a2.fUndone) E0 d0 (fun _ _=>(.tl .hd)) el46 rfl rfl J0 (Bw s0)) (fun K0 t1 ⟨G0,H0,x0,I0⟩=>?_))
 obtain ⟨x3,Z1⟩:=AD H0 (.one .hd (.one .hd (.one .hd (.one (.tl .hd) .done))))
 have J4:=Al q0 (Tt x0 Z1)
 have K4:=Al I0 Z1
 have J5:=Tt t0 (Tt g0 (Tt x0 Z1))
 exact C0 ((vS p0 1),[vI b0.fUnit,vI b0.fFrom,vI b0.fTo],K0,G0) _ _ ⟨rfl,rfl,rfl,rfl,trivial⟩ ⟨x3,J5,J4,K4⟩
 refine BI (m' :=54) (stepC_ok c0 (by kernel_rfl)) rfl .plain rfl (AE (α:=TMove) (xs:=([b0]:List TMove)) (vs:=[.agg #[vI b0.fUnit,vI b0.fFrom,vI b0.fTo]]) (ds' :=[vI b0.fUnit,vI b0.fFrom,vI b0.fTo]) rfl Q0 el46 rfl (e1 rfl) (by kernel_rfl) rfl) (fun F0 p0 d0 g0=>?_)
 have q0:=Ar (cs:=[vI b0.fUnit,vI b0.fFrom,vI b0.fTo]) (xs:=(([b0]:List TMove):List TMove)) d0 L (Aq (cs:=[vI b0.fUnit,vI b0.fFrom,vI b0.fTo]) (ds:=[]) (mk_TMove b0.fUnit b0.fFrom b0.fTo) (AC _ _))
 refine RD.nu 0 55 c0 rfl .plain rfl (AE (α:=TMove) (xs:=([]:List TMove)) (vs:=[]) (ds' :=[]) rfl d0 el46 rfl evs_nil (by kernel_rfl) rfl) (fun u1 d1 j0 t0=>?_)
 have u0:=Ar (cs:=[]) (xs:=(([]:List TMove):List TMove)) j0 L (AC _ _)
 have s0:=Ax h2_4 j0
 refine BD (i:=3) (readyD_ok c0 (by kernel_rfl)) (Bo (m' :=63) (stepC_ok c0 (by kernel_rfl)) rfl rfl .plain rfl (AR (α:=TMove) (ys:=a2.fUndone) E0 j0 (fun _ _=>.hd) el46 rfl rfl u0 (Bw s0)) (fun B0 V0 ⟨y0,v0,z0,A0⟩=>?_))
 obtain ⟨y3,y2⟩:=AD v0 (.one (.tl .hd) (.one .hd (.one .hd (.one (.tl .hd) .done))))
 have F2:=Tt t0 (Tt z0 y2)
 have M4:=Al q0 F2
 have P4:=Al A0 y2
 exact C0 ((vS p0 1),[vI b0.fUnit,vI b0.fFrom,vI b0.fTo],B0,y0) _ _ ⟨rfl,rfl,rfl,rfl,trivial⟩ ⟨y3,(Tt g0 F2),M4,P4⟩
 refine BW (m' :=18) (stepC_ok c0 (by kernel_rfl)) rfl .plain rfl (AG rfl (Q0.memA (.tl .hd)))<|Bv [0,2,5] (readyD_ok c0 (by kernel_rfl)) ⟨?_,?_,?_,trivial⟩
 refine BI (m' :=19) (stepC_ok c0 (by kernel_rfl)) rfl .plain rfl (AE (α:=TMove) (xs:=([]:List TMove)) (vs:=[]) (ds' :=[]) rfl Q0 el46 rfl evs_nil (by kernel_rfl) rfl) (fun u1 d1 j0 t0=>?_)
 have u0:=Ar (cs:=[]) (xs:=(([]:List TMove):List TMove)) j0 L (AC _ _)
 refine Bv [2,5] (readyD_ok c0 (by kernel_rfl)) ⟨?_,?_,trivial⟩
 refine BW (m' :=23) (stepC_ok c0 (by kernel_rfl)) rfl .plain rfl (AA rfl ((j0.memA (.tl (.tl (.tl (.tl .hd))))) 4 _ rfl))<|Bv [3,5] (readyD_ok c0 (by kernel_rfl)) ⟨?_,?_,trivial⟩
 have s0:=Ax h2_4 j0
 refine Bo (m' :=31) (stepC_ok c0 (by kernel_rfl)) rfl rfl .plain rfl (AR (α:=TMove) (ys:=a2.fUndone) E0 j0 (fun _ _=>.hd) el46 rfl rfl u0 (Bw s0)) (fun B0 V0 ⟨y0,v0,z0,A0⟩=>?_)
 refine RD.nu 5 63 c0 rfl .plain rfl (AE (α:=TMove) (xs:=([b0]:List TMove)) (vs:=[.agg #[vI b0.fUnit,vI b0.fFrom,vI b0.fTo]]) (ds' :=[vI b0.fUnit,vI b0.fFrom,vI b0.fTo]) rfl v0 el46 rfl (e1 rfl) (by kernel_rfl) rfl) (fun F0 p0 d0 g0=>?_)
 have q0:=Ar (cs:=[vI b0.fUnit,vI b0.fFrom,vI b0.fTo]) (xs:=(([b0]:List TMove):List TMove)) d0 L (Aq (cs:=[vI b0.fUnit,vI b0.fFrom,vI b0.fTo]) (ds:=[]) (mk_TMove b0.fUnit b0.fFrom b0.fTo) (AC _ _))
 obtain ⟨z3,b2⟩:=AD d0 (.one .hd (.one .hd (.one .hd (.one (.tl .hd) .done))))
 have Q4:=Al q0 b2
 have R4:=Al A0 (Tt g0 b2)
 have K5:=Tt t0 (Tt z0 (Tt g0 b2))
 exact C0 ((vS p0 1),[vI b0.fUnit,vI b0.fFrom,vI b0.fTo],B0,y0) _ _ ⟨rfl,rfl,rfl,rfl,trivial⟩ ⟨z3,K5,Q4,R4⟩
 refine BI (m' :=55) (stepC_ok c0 (by kernel_rfl)) rfl .plain rfl (AE (α:=TMove) (xs:=([b0]:List TMove)) (vs:=[.agg #[vI b0.fUnit,vI b0.fFrom,vI b0.fTo]]) (ds' :=[vI b0.fUnit,vI b0.fFrom,vI b0.fTo]) rfl j0 el46 rfl (e1 rfl) (by kernel_rfl) rfl) (fun F0 p0 d0 g0=>?_)
 have q0:=Ar (cs:=[vI b0.fUnit,vI b0.fFrom,vI b0.fTo]) (xs:=(([b0]:List TMove):List TMove)) d0 L (Aq (cs:=[vI b0.fUnit,vI b0.fFrom,vI b0.fTo]) (ds:=[]) (mk_TMove b0.fUnit b0.fFrom b0.fTo) (AC _ _))
 have s0:=Ax h2_4 d0
 have J0:=Al u0 g0
 refine BD (i:=3) (readyD_ok c0 (by kernel_rfl)) (Bo (m' :=63) (stepC_ok c0 (by kernel_rfl)) rfl rfl .plain rfl (AR (α:=TMove) (ys:=a2.fUndone) E0 d0 (fun _ _=>(.tl .hd)) el46 rfl rfl J0 (Bw s0)) (fun K0 t1 ⟨G0,H0,x0,I0⟩=>?_))
 obtain ⟨A3,c2⟩:=AD H0 (.one .hd (.one .hd (.one .hd (.one (.tl .hd) .done))))
 have U4:=Al q0 (Tt x0 c2)
 have V4:=Al I0 c2
 have M5:=Tt t0 (Tt g0 (Tt x0 c2))
 exact C0 ((vS p0 1),[vI b0.fUnit,vI b0.fFrom,vI b0.fTo],K0,G0) _ _ ⟨rfl,rfl,rfl,rfl,trivial⟩ ⟨A3,M5,U4,V4⟩
 refine BI (m' :=51) (stepC_ok c0 (by kernel_rfl)) rfl .plain rfl (AE (α:=TMove) (xs:=([b0]:List TMove)) (vs:=[.agg #[vI b0.fUnit,vI b0.fFrom,vI b0.fTo]]) (ds' :=[vI b0.fUnit,vI b0.fFrom,vI b0.fTo]) rfl j0 el46 rfl (e1 rfl) (by kernel_rfl) rfl) (fun F0 p0 d0 g0=>?_)
 have q0:=Ar (cs:=[vI b0.fUnit,vI b0.fFrom,vI b0.fTo]) (xs:=(([b0]:List TMove):List TMove)) d0 L (Aq (cs:=[vI b0.fUnit,vI b0.fFrom,vI b0.fTo]) (ds:=[]) (mk_TMove b0.fUnit b0.fFrom b0.fTo) (AC _ _))
 refine AT 2 55 456 c0 rfl A1 (AA rfl ((d0.memA (.tl (.tl (.tl (.tl (.tl .hd)))))) 4 _ rfl)) rfl ?_
 have s0:=Ax h2_4 d0
 have J0:=Al u0 g0
 refine BD (i:=3) (readyD_ok c0 (by kernel_rfl)) (Bo (m' :=63) (stepC_ok c0 (by kernel_rfl)) rfl rfl .plain rfl (AR (α:=TMove) (ys:=a2.fUndone) E0 d0 (fun _ _=>(.tl .hd)) el46 rfl rfl J0 (Bw s0)) (fun K0 t1 ⟨G0,H0,x0,I0⟩=>?_))
 obtain ⟨B3,d2⟩:=AD H0 (.one .hd (.one .hd (.one .hd (.one (.tl .hd) .done))))
 have W4:=Al q0 (Tt x0 d2)
 have X4:=Al I0 d2
 have P5:=Tt t0 (Tt g0 (Tt x0 d2))
 exact C0 ((vS p0 1),[vI b0.fUnit,vI b0.fFrom,vI b0.fTo],K0,G0) _ _ ⟨rfl,rfl,rfl,rfl,trivial⟩ ⟨B3,P5,W4,X4⟩
 refine BW (m' :=22) (stepC_ok c0 (by kernel_rfl)) rfl .plain rfl (AA rfl ((Q0.memA (.tl (.tl (.tl .hd)))) 4 _ rfl))<|Bv [0,5] (readyD_ok c0 (by kernel_rfl)) ⟨?_,?_,trivial⟩
 refine BI (m' :=23) (stepC_ok c0 (by kernel_rfl)) rfl .plain rfl (AE (α:=TMove) (xs:=([]:List TMove)) (vs:=[]) (ds' :=[]) rfl Q0 el46 rfl evs_nil (by kernel_rfl) rfl) (fun u1 d1 j0 t0=>?_)
 have u0:=Ar (cs:=[]) (xs:=(([]:List TMove):List TMove)) j0 L (AC _ _)
 refine Bv [3,5] (readyD_ok c0 (by kernel_rfl)) ⟨?_,?_,trivial⟩
 have s0:=Ax h2_4 j0
 refine Bo (m' :=31) (stepC_ok c0 (by kernel_rfl)) rfl rfl .plain rfl (AR (α:=TMove) (ys:=a2.fUndone) E0 j0 (fun _ _=>.hd) el46 rfl rfl u0 (Bw s0)) (fun B0 V0 ⟨y0,v0,z0,A0⟩=>?_)
 refine RD.nu 5 63 c0 rfl .plain rfl (AE (α:=TMove) (xs:=([b0]:List TMove)) (vs:=[.agg #[vI b0.fUnit,vI b0.fFrom,vI b0.fTo]]) (ds' :=[vI b0.fUnit,vI b0.fFrom,vI b0.fTo]) rfl v0 el46 rfl (e1 rfl) (by kernel_rfl) rfl) (fun F0 p0 d0 g0=>?_)
 have q0:=Ar (cs:=[vI b0.fUnit,vI b0.fFrom,vI b0.fTo]) (xs:=(([b0]:List TMove):List TMove)) d0 L (Aq (cs:=[vI b0.fUnit,vI b0.fFrom,vI b0.fTo]) (ds:=[]) (mk_TMove b0.fUnit b0.fFrom b0.fTo) (AC _ _))
 obtain ⟨C3,g2⟩:=AD d0 (.one .hd (.one .hd (.one .hd (.one (.tl .hd) .done))))
 have Y4:=Al q0 g2
 have Z4:=Al A0 (Tt g0 g2)
 have Q5:=Tt t0 (Tt z0 (Tt g0 g2))
 exact C0 ((vS p0 1),[vI b0.fUnit,vI b0.fFrom,vI b0.fTo],B0,y0) _ _ ⟨rfl,rfl,rfl,rfl,trivial⟩ ⟨C3,Q5,Y4,Z4⟩
 refine BI (m' :=55) (stepC_ok c0 (by kernel_rfl)) rfl .plain rfl (AE (α:=TMove) (xs:=([b0]:List TMove)) (vs:=[.agg #[vI b0.fUnit,vI b0.fFrom,vI b0.fTo]]) (ds' :=[vI b0.fUnit,vI b0.fFrom,vI b0.fTo]) rfl j0 el46 rfl (e1 rfl) (by kernel_rfl) rfl) (fun F0 p0 d0 g0=>?_)
 have q0:=Ar (cs:=[vI b0.fUnit,vI b0.fFrom,vI b0.fTo]) (xs:=(([b0]:List TMove):List TMove)) d0 L (Aq (cs:=[vI b0.fUnit,vI b0.fFrom,vI b0.fTo]) (ds:=[]) (mk_TMove b0.fUnit b0.fFrom b0.fTo) (AC _ _))
 have s0:=Ax h2_4 d0
 have J0:=Al u0 g0
 refine BD (i:=3) (readyD_ok c0 (by kernel_rfl)) (Bo (m' :=63) (stepC_ok c0 (by kernel_rfl)) rfl rfl .plain rfl (AR (α:=TMove) (ys:=a2.fUndone) E0 d0 (fun _ _=>(.tl .hd)) el46 rfl rfl J0 (Bw s0)) (fun K0 t1 ⟨G0,H0,x0,I0⟩=>?_))
 obtain ⟨D3,j2⟩:=AD H0 (.one .hd (.one .hd (.one .hd (.one (.tl .hd) .done))))
 have c5:=Al q0 (Tt x0 j2)
 have d5:=Al I0 j2
 have R5:=Tt t0 (Tt g0 (Tt x0 j2))
 exact C0 ((vS p0 1),[vI b0.fUnit,vI b0.fFrom,vI b0.fTo],K0,G0) _ _ ⟨rfl,rfl,rfl,rfl,trivial⟩ ⟨D3,R5,c5,d5⟩
 refine BI (m' :=54) (stepC_ok c0 (by kernel_rfl)) rfl .plain rfl (AE (α:=TMove) (xs:=([b0]:List TMove)) (vs:=[.agg #[vI b0.fUnit,vI b0.fFrom,vI b0.fTo]]) (ds' :=[vI b0.fUnit,vI b0.fFrom,vI b0.fTo]) rfl Q0 el46 rfl (e1 rfl) (by kernel_rfl) rfl) (fun F0 p0 d0 g0=>?_)
 have q0:=Ar (cs:=[vI b0.fUnit,vI b0.fFrom,vI b0.fTo]) (xs:=(([b0]:List TMove):List TMove)) d0 L (Aq (cs:=[vI b0.fUnit,vI b0.fFrom,vI b0.fTo]) (ds:=[]) (mk_TMove b0.fUnit b0.fFrom b0.fTo) (AC _ _))
 refine RD.nu 0 55 c0 rfl .plain rfl (AE (α:=TMove) (xs:=([]:List TMove)) (vs:=[]) (ds' :=[]) rfl d0 el46 rfl evs_nil (by kernel_rfl) rfl) (fun u1 d1 j0 t0=>?_)
 have u0:=Ar (cs:=[]) (xs:=(([]:List TMove):List TMove)) j0 L (AC _ _)
 have s0:=Ax h2_4 j0
 refine BD (i:=3) (readyD_ok c0 (by kernel_rfl)) (Bo (m' :=63) (stepC_ok c0 (by kernel_rfl)) rfl rfl .plain rfl (AR (α:=TMove) (ys:=a2.fUndone) E0 j0 (fun _ _=>.hd) el46 rfl rfl u0 (Bw s0)) (fun B0 V0 ⟨y0,v0,z0,A0⟩=>?_))
 obtain ⟨E3,z2⟩:=AD v0 (.one (.tl .hd) (.one .hd (.one .hd (.one (.tl .hd) .done))))
 have G2:=Tt t0 (Tt z0 z2)
 have g5:=Al q0 G2
 have j5:=Al A0 z2
 exact C0 ((vS p0 1),[vI b0.fUnit,vI b0.fFrom,vI b0.fTo],B0,y0) _ _ ⟨rfl,rfl,rfl,rfl,trivial⟩ ⟨E3,(Tt g0 G2),g5,j5⟩
 refine BI (m' :=50) (stepC_ok c0 (by kernel_rfl)) rfl .plain rfl (AE (α:=TMove) (xs:=([b0]:List TMove)) (vs:=[.agg #[vI b0.fUnit,vI b0.fFrom,vI b0.fTo]]) (ds' :=[vI b0.fUnit,vI b0.fFrom,vI b0.fTo]) rfl Q0 el46 rfl (e1 rfl) (by kernel_rfl) rfl) (fun F0 p0 d0 g0=>?_)
 have q0:=Ar (cs:=[vI b0.fUnit,vI b0.fFrom,vI b0.fTo]) (xs:=(([b0]:List TMove):List TMove)) d0 L (Aq (cs:=[vI b0.fUnit,vI b0.fFrom,vI b0.fTo]) (ds:=[]) (mk_TMove b0.fUnit b0.fFrom b0.fTo) (AC _ _))
 refine AT 2 54 456 c0 rfl A1 (AA rfl ((d0.memA (.tl (.tl (.tl (.tl .hd))))) 4 _ rfl)) rfl<|RD.nu 0 55 c0 rfl .plain rfl (AE (α:=TMove) (xs:=([]:List TMove)) (vs:=[]) (ds' :=[]) rfl d0 el46 rfl evs_nil (by kernel_rfl) rfl) (fun u1 d1 j0 t0=>?_)
 have u0:=Ar (cs:=[]) (xs:=(([]:List TMove):List TMove)) j0 L (AC _ _)
 have s0:=Ax h2_4 j0
 refine BD (i:=3) (readyD_ok c0 (by kernel_rfl)) (Bo (m' :=63) (stepC_ok c0 (by kernel_rfl)) rfl rfl .plain rfl (AR (α:=TMove) (ys:=a2.fUndone) E0 j0 (fun _ _=>.hd) el46 rfl rfl u0 (Bw s0)) (fun B0 V0 ⟨y0,v0,z0,A0⟩=>?_))
 obtain ⟨F3,A2⟩:=AD v0 (.one (.tl .hd) (.one .hd (.one .hd (.one (.tl .hd) .done))))
 have H2:=Tt t0 (Tt z0 A2)
 have k5:=Al q0 H2
 have p5:=Al A0 A2
 exact C0 ((vS p0 1),[vI b0.fUnit,vI b0.fFrom,vI b0.fTo],B0,y0) _ _ ⟨rfl,rfl,rfl,rfl,trivial⟩ ⟨F3,(Tt g0 H2),k5,p5⟩
 refine Ae<|Ab (AV (vs:=[]) (u:=.agg #[vI 0,vN,vN,vN,vN]) evs_nil (fun w9=>by kernel_rfl))<|Ac rfl<|Bk [vI 0,vN,vN,vN,vN] D0 .hd (onesB rfl) (fun X6 Y0 B6=>?_)
 refine Ag rfl<|Aa<|Am rfl ?_
 have I2:=AL (α:=Int) Y0 L
 have J2:=AL (α:=TMove) Y0 L
 refine Ay hb0 Tryz.func33 rfl (.cons (.many (cs:=[vI 0,vN,vN,vN,vN]) (by kernel_rfl) rfl (Y0.memA .hd)) (.cons (.tmp rfl) .nil)) rfl ?_
 cases h
 exact ⟨Y0.ag,fun w9 hw9=>⟨vN,vN,vN,vN,rfl,Y0.kd I2 hw9,Y0.kd I2 hw9,Y0.kd J2 hw9,Y0.kd J2 hw9⟩⟩
end Go.Proofs.YtcijnmkodpfpgaaGreatDoor
