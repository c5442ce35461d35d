import Derived.Test.YtkommhmbkbhmlaaGreatVX10
namespace Go.Proofs.YtkommhmbkbhmlaaGreat
open Go Go.RowKit Tryz
set_option maxRecDepth 4000
set_option maxHeartbeats 4000000

def bJ_p (n:Nat) (a0:Tg) (a1:Tg):Oa Tg:=
  (aH_p n a0.fN a1.fN).bind fun b0=>(aH_p n a0.fD a1.fD).bind fun c0=>(aW_p n b0 c0).bind fun d0=>some d0
theorem bJ_c (n:Nat) {L w} (hL:hl L w) (a0:Tg) {v0_1:Vc} (h0_1:Rep.R w L [v0_1] a0.fN.fD) {v0_3:Vc} (h0_3:Rep.R w L [v0_3] a0.fD.fD) (a1:Tg) {v1_1:Vc} (h1_1:Rep.R w L [v1_1] a1.fN.fD) {v1_3:Vc} (h1_3:Rep.R w L [v1_3] a1.fD.fD)  {r:Tg} (h:bJ_p n a0 a1 = some r) :
 Cl 107 #[.agg #[.bool a0.fN.fc,v0_1,.bool a0.fD.fc,v0_3],.agg #[.bool a1.fN.fc,v1_1,.bool a1.fD.fc,v1_3]] w (aj w fun w' u=>∃ v0_1 v0_3:Vc,u = .agg #[.bool r.fN.fc,v0_1,.bool r.fD.fc,v0_3]/\Rep.R w' L [v0_1] r.fN.fD/\Rep.R w' L [v0_3] r.fD.fD):=by
 unfold bJ_p at h
 refine AL func107 I I I fun _ cs0 hb0=>Ae<|RG.bx (AK w) I I fun g1 M0 x0 R0=>RG.bx x0 I I fun j1 P0 y0 U0=>RG.nl [.bool false,vN,.bool false,vN] y0 fun k1 Q0 c0 V0=>Aa<|Aj<|du 11 fun b0 d0=>Rv 0 b0 I d0 (fun _=>Bh 0 I)<|Rx 1 3600 b0 I d0 (AQ (cs:=[.bool a0.fN.fc,v0_1]) I I (ae (c0.memA .t2) 0 2))<|Rv 2 b0 I d0 (fun _=>Bh 0 I)<|Rx 3 3600 b0 I d0 (AQ (cs:=[.bool a1.fN.fc,v1_1]) I I (ae (c0.memA .t1) 0 2))<|Rv 5 b0 I d0 (fun _=>Bh 2 I)<|Rx 6 3584 b0 I d0 (AQ (cs:=[.bool a0.fD.fc,v0_3]) I I (ae (c0.memA .t2) 2 2))<|Rv 7 b0 I d0 (fun _=>Bh 2 I)<|Rx 8 3584 b0 I d0 (AQ (cs:=[.bool a1.fD.fc,v1_3]) I I (ae (c0.memA .t1) 2 2))<|bk h fun J0 G0 h=>AZ 4 511 b0 I .plain (bd 153) I (e2 I I) (fun p q=>aH_c n (c0.hL hL q) a0.fN (c0.km h0_1 q) a1.fN (c0.km h1_1 q) G0) I fun p1 b1 B0 ⟨Y0,hu_,E0⟩=>?_
 subst hu_
 obtain ⟨g0,W0⟩:=c0.agr B0
 refine bk h fun K0 H0 h=>AZ 9 1023 b0 I .plain (bd 153) I (e2 I I) (fun p q=>aH_c n (g0.hL hL q) a0.fD (g0.km h0_3 q) a1.fD (g0.km h1_3 q) H0) I fun q1 c1 C0 ⟨Z0,hu_,F0⟩=>?_
 subst hu_
 obtain ⟨s0,A0⟩:=g0.agr C0
 refine bk h fun k0 I0 h=>AZ 10 2047 b0 I .plain (bd 148) I (e2 I I) (fun p q=>aW_c n (s0.hL hL q) J0 (Ah (Af E0 A0) q) K0 (Ah F0 q) I0) I fun s1 d1 D0 ⟨p0,q0,hu_,u0,v0⟩=>?_
 subst hu_
 obtain ⟨z0,X0⟩:=s0.agr D0
 refine BC 11 4095 b0 I I .plain (AD (news:=[.bool k0.fN.fc,p0,.bool k0.fD.fc,q0]) z0 .hd I I I I I I (o4 I (Az u0) I (Az v0))) fun u1 j0 t0=>AN (dk b0)<|Ar I<|Au hb0 func107 I (.cons (.many (cs:=[.bool k0.fN.fc,p0,.bool k0.fD.fc,q0]) I I (j0.memA .hd)) .nil) I ?_
 cases h
 exact ⟨j0.ag,fun p q=>⟨p0,q0,I,j0.kd (Af u0 t0) q,j0.kd (Af v0 t0) q⟩⟩
def aa_l1 (_n:Nat) (a0:Lb Ta) (a1:Lb Ta) (c0:Nat -> Oa (Bool ⊕ Unit)):Nat -> Oa (Bool ⊕ Unit)
  | b0=>(if b0 < a0.length then (a0[b0]?).bind fun d0=>(a1[b0]?).bind fun g0=>(if d0 = g0 then c0 (b0 + 1) else some (.inl false)) else some (.inr ()))
def aa_p (n:Nat) (a0:Lb Ta) (a1:Lb Ta):Oa Bool:=
  (if a0.length = a1.length then thn (ao (aa_l1 n a0 a1) n 0) (fun _=>some true) else some false)
theorem aa_c (n:Nat) {L w} (_hL:hl L w) {a0:Lb Ta} {v0_0:Vc} (h0_0:Rep.R w L [v0_0] a0) {a1:Lb Ta} {v1_0:Vc} (h1_0:Rep.R w L [v1_0] a1)  {r:Bool} (h:aa_p n a0 a1 = some r) :
 Cl 39 #[v0_0,v1_0] w (aj w fun _ u=>u = .bool r):=by
 unfold aa_p at h
 have hS0:=AK w
 refine AL func39 I I I fun _ cs0 hb0=>Ae<|Ag I<|Aa<|Aj<|Ae<|Ac I ?_
 have hl1:=AX h0_0
 refine Ab (AY (xs:=a0) underlying24 I h0_0)<|Ac I ?_
 have hl2:=AX h1_0
 refine Ab (AY (xs:=a1) underlying24 I h1_0)<|Ab (FV.neqN (i:=a0.length) (j:=a1.length) I I)<|Aa<|BI I h (fun c3 h=>?_) (fun c3 h=>?_)
 refine Aq<|Aj<|Ae<|Ag I<|Aa<|Av<|tn h fun U0 D0 j0=>MX.lo (α:=Nat) (fun b0=>[(0,v0_0),(1,v1_0),(5,vn b0)]) (fun b0=>[]) (fun b0=>b0) 0 D0 hS0 ?_
 rintro K0 b0 V0 u0 g0 v0 h
 unfold aa_l1 at h
 try dsimp only at h
 refine Aj<|Ae<|Ac I<|Ac I ?_
 have k0:=AG h0_0 g0
 refine Ab (AY (xs:=a0) underlying24 I k0)<|Ab (AU (i:=b0) (j:=a0.length) I I)<|Aa<|AW I h (fun s0 h=>?_) (fun s0 h=>?_)
 refine Aq<|Aj<|Av<|Aj<|du 9 fun c0 d0=>Rv 0 c0 I d0 (fun _=>Al I)<|Rv 1 c0 I d0 (fun _=>Al I)<|bk h fun p0 G0 h=>?_
 obtain ⟨I0,M0,x0,z0,Q0,E0,B0⟩:=Be k0 G0
 obtain rfl:=aF E0
 refine Rv 2 c0 I d0 (fun _=>Bf 32 b0 I x0 I I z0)<|Rx 3 256 c0 I d0 (AA I B0)<|Rv 4 c0 I d0 (fun _=>Al I)<|Rv 5 c0 I d0 (fun _=>Al I)<|bk h fun q0 H0 h=>?_
 obtain ⟨J0,P0,y0,A0,R0,F0,C0⟩:=Be (AG h1_0 g0) H0
 obtain rfl:=aF F0
 refine Rv 6 c0 I d0 (fun _=>Bf 32 b0 I y0 I I A0)<|Rx 7 256 c0 I d0 (AA I C0)<|Rv 8 c0 I d0 (fun _=>FV.neqV (xs:=((av p0)).toArray) (ys:=((av q0)).toArray) I I (by kernel_rfl) (mt p0 q0))<|AN (dk c0)<|BI I h (fun t0 h=>?_) (fun t0 h=>?_)
 refine Aq<|Aw<|Am<|Ac I<|Ab (Bc (i:=b0) (j:=1) I I (by omega))<|Ag I<|Aa<|u0 (b0 + 1) g0 v0 h
 refine Ae<|Ag I<|Aa ?_
 have h:=aX h j0
 refine Ar I<|Bb hb0 func39 I I ?_
 cases h
 exact g0.gv
 refine Ba I ?_
 have h:=bq h j0
 try dsimp only at h
 refine Ae<|Ag I<|Aa<|Ar I<|Bb hb0 func39 I I ?_
 cases h
 exact g0.gv
 refine Ae<|Ag I<|Aa<|Ar I<|Bb hb0 func39 I I ?_
 cases h
 exact hS0.gv
theorem op_Th {w:World} {L:Lb Nat} {cs:Lb Vc} {x:Th} (h:Rep.R w L cs x):∃ v0:Vc,cs = [v0]/\Rep.R w L [v0] x.fL:=by
  obtain ⟨v0,rfl,kv0⟩:=dz (xs:=x.fL) h
  exact ⟨v0,I,kv0⟩
def cE_p (n:Nat) (a0:Lb Ta) (a1:Th) (a2:Tl):Oa ((Lb Ta) × (Lb Ta) × (Lb Ta)):=
  (bH_p n a0).bind fun b0=>(am_p n a1).bind fun c0=>(am_p n a1).bind fun d0=>(bV_p n a2 d0).bind fun g0=>some (b0,c0,g0)
theorem cE_c (n:Nat) {L w} (hL:hl L w) {a0:Lb Ta} {v0_0:Vc} (h0_0:Rep.R w L [v0_0] a0) (a1:Th) {v1_0:Vc} (h1_0:Rep.R w L [v1_0] a1.fL) (a2:Tl)  {r:(Lb Ta) × (Lb Ta) × (Lb Ta)} (h:cE_p n a0 a1 a2 = some r) :
 Cl 40 #[v0_0,.agg #[v1_0],.agg ((pi a2)).toArray] w (aj w fun w' u=>∃ v0_0 v0_1 v0_2:Vc,u = .agg #[v0_0,v0_1,v0_2]/\Rep.R w' L [v0_0] r.1/\Rep.R w' L [v0_1] r.2.1/\Rep.R w' L [v0_2] r.2.2):=by
 unfold cE_p at h
 refine AL func40 I I I fun _ cs0 hb0=>Ae<|RG.bx (AK w) I I fun D1 d1 E0 s1=>RG.bx E0 I I fun E1 g1 F0 u1=>RG.nl [vN,vN,vN] F0 fun F1 j1 c0 v1=>Aa<|Aj<|du 9 fun b0 g0=>Rv 0 b0 I g0 (fun _=>Al I)<|Rx 2 968 b0 I g0 (AA I (c0.memA .t2))<|Rx 4 896 b0 I g0 (AA I (c0.memA .t1))<|Rx 5 960 b0 I g0 (AA I (c0.memA .t2))<|bk h fun M1 V0 h=>AZ 1 55 b0 I .plain (bd 37) I (e1 I) (fun p q=>bH_c n (c0.hL hL q) (c0.km h0_0 q) V0) I fun G1 j0 I0 ⟨y1,hu_,C0⟩=>?_
 subst hu_
 obtain ⟨q0,x1⟩:=c0.agr I0
 refine bk h fun P1 W0 h=>AZ 3 63 b0 I .plain (bd 33) I (e1 I) (fun p q=>am_c n (q0.hL hL q) a1 (q0.km h1_0 q) W0) I fun H1 k0 J0 ⟨z1,hu_,D0⟩=>?_
 subst hu_
 obtain ⟨s0,H0⟩:=q0.agr J0
 refine bk h fun Q1 X0 h=>AZ 6 127 b0 I .plain (bd 33) I (e1 I) (fun p q=>am_c n (s0.hL hL q) a1 (s0.km h1_0 q) X0) I fun I1 C1 K0 ⟨A1,hu_,P0⟩=>?_
 subst hu_
 obtain ⟨y0,t0⟩:=s0.agr K0
 refine bk h fun R1 Y0 h=>AZ 7 255 b0 I .plain (bd 36) I (e2 I I) (fun p q=>bV_c n (y0.hL hL q) a2 (Ah P0 q) Y0) I fun J1 p0 M0 ⟨B1,hu_,x0⟩=>?_
 subst hu_
 obtain ⟨G0,u0⟩:=y0.agr M0
 have B0:=Tt H0 (Tt t0 u0)
 have z0:=Af C0 B0
 obtain ⟨Z0,k1,Q0,_⟩:=Bi z0
 have A0:=Af D0 (Tt t0 u0)
 obtain ⟨b1,p1,R0,_⟩:=Bi A0
 obtain ⟨c1,q1,U0,_⟩:=Bi x0
 refine Rv 8 b0 I g0 (fun _=>AS (vs:=[j0,k0,p0]) (u:=.agg #[j0,k0,p0]) (e3 I I I) (fun p=>by rw [Q0,R0,U0]; try kernel_rfl))<|BC 9 1023 b0 I I .plain (AD (news:=[j0,k0,p0]) G0 .hd I I I I I I (o3 (Az z0) (Az A0) (Az x0))) fun K1 d0 v0=>AN (dk b0)<|Ar I<|Au hb0 func40 I (.cons (.many (cs:=[j0,k0,p0]) I I (d0.memA .hd)) .nil) I ?_
 cases h
 exact ⟨d0.ag,fun p q=>⟨j0,k0,p0,I,d0.kd (Af C0 (Tt B0 v0)) q,d0.kd (Af D0 (Tt t0 (Tt u0 v0))) q,d0.kd (Af x0 v0) q⟩⟩
def aX_l1 (n:Nat) (a0:Lb Ta) (g0:Nat × (Lb Tc) -> Oa (Lb Tc)):Nat × (Lb Tc) -> Oa (Lb Tc)
  | (b0,d0)=>(if b0 < a0.length then (a0[b0]?).bind fun c0=>(aL_p n c0.fm).bind fun k0=>(aL_p n c0.fP).bind fun p0=>(app d0 ([(⟨k0,p0⟩:Tc)]:Lb Tc)).bind fun j0=>g0 (b0 + 1,j0) else some d0)
def aX_p (n:Nat) (a0:Lb Ta):Oa (Lb Tc):=
  Option.bind (ao (aX_l1 n a0) n (0,([]:Lb Tc))) (fun b0=>some b0)
theorem aX_c (n:Nat) {L w} (hL:hl L w) {a0:Lb Ta} {v0_0:Vc} (h0_0:Rep.R w L [v0_0] a0)  {r:Lb Tc} (h:aX_p n a0 = some r) :
 Cl 109 #[v0_0] w (aj w fun w' u=>∃ (v0_0:Vc) (cs0_0:Lb Vc),u = v0_0/\St w w' (aT w.heap.size [(158,Rep.size Tc,v0_0,r.length,cs0_0)])/\Cells w' (bl (aT w.heap.size [(158,Rep.size Tc,v0_0,r.length,cs0_0)]) ++ L) cs0_0 (r:Lb Tc)):=by
 unfold aX_p at h
 have hS0:=AK w
 refine AL func109 I I I fun _ cs0 hb0=>Ae<|Ag I<|Aa<|Ae<|Ag I<|Aa<|Aj<|Ae<|Ag I<|Aa<|Av ?_
 have F0:=hS0.nilRow 158 (Rep.size Tc)
 have y2:=BT hS0 158 (Rep.size Tc)
 obtain ⟨A2,x1,v1⟩:=am h
 refine BR (α:=Nat × (Lb Tc) × Vc × (Lb Vc)) (fun ⟨j0,q0,k0,p0⟩=>[(0,v0_0),(3,k0),(4,vn j0)]) (fun ⟨j0,q0,k0,p0⟩=>[rr w 158 Tc k0 q0.length p0]) (fun ⟨j0,q0,k0,p0⟩ W0=>Cells W0 (bl [rr w 158 Tc k0 q0.length p0] ++ L) p0 q0) (fun ⟨j0,q0,k0,p0⟩=>(j0,q0)) (0,([]:Lb Tc),vN,[]) x1 F0 (AJ (cs:=[]) (xs:=([]:Lb Tc)) F0 L (AR _ _)) ?_
 rintro c2 ⟨j0,q0,k0,p0⟩ W0 Z0 x0 j1 I0 h
 unfold aX_l1 at h
 try dsimp only at h
 refine Aj<|Ae<|Ac I<|Ac I ?_
 have C0:=AG h0_0 x0
 have z2:=AX C0
 refine Ab (AY (xs:=a0) underlying24 I C0)<|Ab (AU (i:=j0) (j:=a0.length) I I)<|Aa<|AW I h (fun X0 h=>?_) (fun X0 h=>?_)
 refine Aq<|Aj<|Av<|du 15 fun b0 g0=>Rv 0 b0 I g0 (fun _=>Al I)<|Rv 1 b0 I g0 (fun _=>Al I)<|Rv 2 b0 I g0 (fun _=>Al I)<|bk h fun A0 H1 h=>?_
 obtain ⟨Q1,g2,J0,K0,x2,y1,M0⟩:=Be C0 H1
 obtain rfl:=aF y1
 refine Rv 3 b0 I g0 (fun _=>Bf 32 j0 I J0 I I K0)<|Rv 4 b0 I g0 (fun _=>Bh 0 I)<|Rx 5 127040 b0 I g0 (AQ (cs:=(ab A0.fm)) I I (ae M0 0 16))<|Rv 7 b0 I g0 (fun _=>Al I)<|Rv 8 b0 I g0 (fun _=>Al I)<|Rv 9 b0 I g0 (fun _=>Bf 32 j0 I J0 I I K0)<|Rv 10 b0 I g0 (fun _=>Bh 16 I)<|Rx 11 126976 b0 I g0 (AQ (cs:=(ab A0.fP)) I I (ae M0 16 16))<|bk h fun c0 J1 h=>AZ 6 4095 b0 I .plain (bd 104) I (e1 I) (fun p q=>aL_c n (x0.hL hL q) A0.fm J1) I fun D2 B2 q1 ⟨s0,t0,hu_,U0,V0⟩=>?_
 subst hu_
 obtain ⟨G0,k1⟩:=x0.agr q1
 refine bk h fun d0 K1 h=>AZ 12 8191 b0 I .plain (bd 104) I (e1 I) (fun p q=>aL_c n (G0.hL hL q) A0.fP K1) I fun E2 C2 s1 ⟨u0,v0,hu_,D0,E0⟩=>?_
 subst hu_
 obtain ⟨b1,y0⟩:=G0.agr s1
 have P0:=Af U0 y0
 obtain ⟨R1,j2,z1,_⟩:=Bi P0
 have Q0:=Af V0 y0
 obtain ⟨U1,k2,A1,_⟩:=Bi Q0
 obtain ⟨V1,p2,B1,_⟩:=Bi D0
 obtain ⟨W1,q2,C1,_⟩:=Bi E0
 refine Rv 13 b0 I g0 (fun _=>AS (vs:=[.agg #[.bool c0.fN.fc,s0,.bool c0.fD.fc,t0],.agg #[.bool d0.fN.fc,u0,.bool d0.fD.fc,v0]]) (u:=.agg #[.bool c0.fN.fc,s0,.bool c0.fD.fc,t0,.bool d0.fN.fc,u0,.bool d0.fD.fc,v0]) (e2 I I) (fun p=>by rw [z1,A1,B1,C1]; try kernel_rfl)) ?_
 obtain ⟨X1,s2,D1,_⟩:=Bi P0
 obtain ⟨Y1,t2,E1,_⟩:=Bi Q0
 obtain ⟨Z1,u2,F1,_⟩:=Bi D0
 obtain ⟨b2,v2,G1,_⟩:=Bi E0
 refine RD.nu 14 32767 b0 I .plain I (AV (α:=Tc) (xs:=([(⟨c0,d0⟩:Tc)]:Lb Tc)) (vs:=[.agg #[.bool c0.fN.fc,s0,.bool c0.fD.fc,t0,.bool d0.fN.fc,u0,.bool d0.fD.fc,v0]]) (ds' :=[.bool c0.fN.fc,s0,.bool c0.fD.fc,t0,.bool d0.fN.fc,u0,.bool d0.fD.fc,v0]) I b1 dL I (e1 I) (by rw [D1,E1,F1,G1]; try kernel_rfl) I) fun F2 d2 B0 z0=>bk h fun P1 I1 h=>?_
 have R0:=Tt k1 (Tt y0 z0)
 refine BJ (i:=15) (rk b0) (RO.doesL (m' :=65535) (sk b0) I I .plain I (Bl (α:=Tc) (ys:=([(⟨c0,d0⟩:Tc)]:Lb Tc)) I1 B0 (fun _ _=>.t1) dL I I (AO I0 R0) (BH (α:=Tc) B0 .hd (AJ (cs:=[.bool c0.fN.fc,s0,.bool c0.fD.fc,t0,.bool d0.fN.fc,u0,.bool d0.fD.fc,v0]) (xs:=(([(⟨c0,d0⟩:Tc)]:Lb Tc):Lb Tc)) B0 L (AC (cs:=[.bool c0.fN.fc,s0,.bool c0.fD.fc,t0,.bool d0.fN.fc,u0,.bool d0.fD.fc,v0]) (ds:=[]) (iF c0 (Af U0 (Tt y0 z0)) (Af V0 (Tt y0 z0)) d0 (Af D0 z0) (Af E0 z0)) (AR _ _))))) (fun M1 G2 ⟨Y0,c1,p1,u1⟩=>?_))
 refine BJ (i:=16) (rk b0) (RO.val (m' :=131071) (sk b0) I .plain I (Bo I) ?_)
 refine AN (dk b0)<|Aw<|Am<|Ac I<|Ab (Bc (i:=j0) (j:=1) I I (by omega))<|Ag I<|Aa ?_
 obtain ⟨g1,H0⟩:=AB c1 .d1
 exact Z0 (j0 + 1,P1,M1,Y0) g1 (Tt j1 (Tt R0 (Tt p1 H0))) (AO u1 H0) h
 refine Ba I ?_
 have h:=v1 _ h
 try dsimp only at h
 refine Ae<|Ac I<|Ag I<|Aa<|Ar I<|Au (u:=k0) hb0 func109 I (.cons (.tmp I) .nil) I ?_
 cases h
 exact ⟨x0.ag,fun p q=>⟨k0,p0,I,x0.agree q,Cells.keep0 I0 q⟩⟩
def ar_l1 (n:Nat) (j0:Lb Tc) (y5:Lb Tc) (p0:Nat) (k0:(Lb Tc) × Nat -> Oa (Lb Tc)):(Lb Tc) × Nat -> Oa (Lb Tc)
  | (g0,b0)=>(if b0 < j0.length then (y5[p0]?).bind fun c0=>(j0[b0]?).bind fun d0=>(aS_p n c0.fm d0.fm).bind fun q0=>(bJ_p n c0.fP d0.fP).bind fun s0=>(aM_p n g0 q0 s0).bind fun t0=>k0 (t0,b0 + 1) else some g0)
def ar_l2 (n:Nat) (y5:Lb Tc) (j0:Lb Tc) (d0:(Lb Tc) × Nat -> Oa (Lb Tc)):(Lb Tc) × Nat -> Oa (Lb Tc)
  | (c0,b0)=>(if b0 < y5.length then Option.bind (ao (ar_l1 n j0 y5 b0) n (c0,0)) (fun g0=>d0 (g0,b0 + 1)) else some c0)
def ar_p (n:Nat) (a0:Lb Ta) (a1:Lb Ta):Oa ((Lb Ta) × Int):=
  (aw_p n a0).bind fun y1=>(if y1 = true then (aw_p n a1).bind fun y3=>(if y3 = true then (aX_p n a0).bind fun y5=>(aX_p n a1).bind fun d0=>Option.bind (ao (ar_l2 n y5 d0) n (([]:Lb Tc),0)) (fun c0=>(aD_p n c0).bind fun b0=>some (b0.1,b0.2)) else some (([]:Lb Ta),(50:Int))) else some (([]:Lb Ta),(50:Int)))
theorem ar_c (n:Nat) {L w} (hL:hl L w) {a0:Lb Ta} {v0_0:Vc} (h0_0:Rep.R w L [v0_0] a0) {a1:Lb Ta} {v1_0:Vc} (h1_0:Rep.R w L [v1_0] a1)  {r:(Lb Ta) × Int} (h:ar_p n a0 a1 = some r) :
 Cl 41 #[v0_0,v1_0] w (aj w fun w' u=>∃ v0_0:Vc,u = .tuple #[v0_0,vI r.2]/\Rep.R w' L [v0_0] r.1):=by
 unfold ar_p at h
 have hS0:=AK w
 refine AL func41 I I I fun _ cs0 hb0=>Ae<|Ag I<|Ag I<|Aa<|Aj<|Ae<|Ac I<|bk h fun y1 hy1 h=>Bj (.bool y1) (bd 101) I (e1 I) (fun p q=>aw_c n (hS0.hL0 hL q) (hS0.kd h0_0 q) hy1) I<|Ab (Bz I)<|Ac I<|BP (s:=14) I h (fun c2 h=>?_) (fun c2 h=>?_)
 refine AM (Al I)<|bk h fun y3 hy3 h=>BG (v:=.bool y3) (fst:=[]) (cap:=[]) (.yes I I) (bd 101) I (e1 I) (fun p q=>aw_c n (hS0.hL0 hL q) (hS0.kd h1_0 q) hy3) I<|AM (Bz I)<|Bs I I<|Aa<|MX.ifnb I h (fun c4 h=>?_) (fun c4 h=>?_)
 refine Aq<|Ae<|Ac I<|bk h fun y5 hy5 h=>jE (bd 109) I (e1 I) (fun p q=>cw (b0:=w.heap.size) (aX_c n (hS0.hL hL q) (Ah h0_0 q) hy5) q (Nat.le_trans hS0.ag.size q.size)) I fun w6 vu7 hag8 ⟨D3,B0,x2,s9,C1⟩=>?_
 subst x2
 have v0:=cV hS0 s9
 have u3:=gm hS0 s9
 have D1:=AJ (cs:=B0) (xs:=(y5:Lb Tc)) v0 L (cu C1)
 refine Ac I<|bk h fun u0 B2 h=>jE (bd 109) I (e1 I) (fun p q=>cw (b0:=w.heap.size) (aX_c n (v0.hL hL q) (v0.km h1_0 q) B2) q (Nat.le_trans v0.ag.size q.size)) I fun Q3 y0 x3 ⟨E3,C0,y2,Y0,E1⟩=>?_
 subst y2
 have I0:=cV v0 Y0
 have F1:=AJ (cs:=C0) (xs:=(u0:Lb Tc)) I0 L (cu E1)
 refine Ag I<|Ag I<|Aa<|Ae<|Ag I<|Aa<|Aj<|Ae<|Ag I<|Aa<|Av ?_
 obtain ⟨B3,P1,K1⟩:=am h
 refine BR (α:=(Lb Tc) × Nat × Vc) (fun ⟨s0,g0,p0⟩=>[(6,vu7),(7,y0),(8,p0),(9,vn g0)]) (fun ⟨s0,g0,p0⟩=>[rr w 158 Tc y0 u0.length C0,rr w 158 Tc vu7 y5.length B0]) (fun ⟨s0,g0,p0⟩ Z0=>Rep.R Z0 (bl [rr w 158 Tc y0 u0.length C0,rr w 158 Tc vu7 y5.length B0] ++ L) [p0] s0) (fun ⟨s0,g0,p0⟩=>(s0,g0)) (([]:Lb Tc),0,vN) P1 I0 (Bm (α:=Tc) I0 L) ?_
 rintro b3 ⟨s0,g0,p0⟩ Z0 q1 D0 J0 W0 h
 unfold ar_l2 at h
 try dsimp only at h
 refine Aj<|Ae<|Ac I<|Ac I ?_
 have z3:y5.length <= 4294967296:=St.rowLe (α:=Tc) D0 .t1
 obtain ⟨Y2,d3,G1⟩:=St.rowV (α:=Tc) D0 .t1
 refine Ab (FV.lenV underlying150 I G1)<|Ab (AU (i:=g0) (j:=y5.length) I I)<|Aa<|AW I h (fun k1 h=>?_) (fun k1 h=>?_)
 refine Aq<|Aj<|Av<|Ae<|Ag I<|Aa<|Av ?_
 obtain ⟨C3,Q1,M1⟩:=am h
 refine BR (α:=(Lb Tc) × Nat × Vc) (fun ⟨t0,j0,q0⟩=>[(6,vu7),(7,y0),(8,q0),(9,vn g0),(10,vn j0)]) (fun ⟨t0,j0,q0⟩=>[rr w 158 Tc y0 u0.length C0,rr w 158 Tc vu7 y5.length B0]) (fun ⟨t0,j0,q0⟩ b1=>Rep.R b1 (bl [rr w 158 Tc y0 u0.length C0,rr w 158 Tc vu7 y5.length B0] ++ L) [q0] t0) (fun ⟨t0,j0,q0⟩=>(t0,j0)) (s0,0,p0) Q1 D0 W0 ?_
 rintro c3 ⟨t0,j0,q0⟩ b1 s1 k0 E0 X0 h
 unfold ar_l1 at h
 try dsimp only at h
 refine Aj<|Ae<|Ac I<|Ac I ?_
 have A3:u0.length <= 4294967296:=St.rowLe (α:=Tc) k0 .hd
 obtain ⟨Z2,g3,H1⟩:=St.rowV (α:=Tc) k0 .hd
 refine Ab (FV.lenV underlying150 I H1)<|Ab (AU (i:=j0) (j:=u0.length) I I)<|Aa<|AW I h (fun p1 h=>?_) (fun p1 h=>?_)
 refine Aq<|Aj<|Av<|du 25 fun c0 d0=>Rv 0 c0 I d0 (fun _=>Al I)<|Rv 1 c0 I d0 (fun _=>Al I)<|Rv 2 c0 I d0 (fun _=>Al I)<|bk h fun z0 z2 h=>?_
 obtain ⟨c1,j3,G0,K0,s3,R1,U0⟩:=St.nth (α:=Tc) k0 .t1 (AO D1 (Tt (gm v0 Y0) (Tt J0 E0))) z2
 obtain ⟨g1,k3,I1⟩:=BE (α:=Tc) k0 .t1 K0
 obtain rfl:c1 = ⟨g1,0,none⟩:=by rw [I1] at G0; cases G0; rfl
 obtain ⟨G2,H2,I2,J2,rfl,U1,V1,W1,X1⟩:=eI R1
 refine Rv 3 c0 I d0 (fun _=>Bf 8 g0 I G0 I I K0)<|Rv 4 c0 I d0 (fun _=>Bh 0 I)<|Rx 5 29362176 c0 I d0 (AQ (cs:=[.bool z0.fm.fN.fc,G2,.bool z0.fm.fD.fc,H2]) I I (ae U0 0 4))<|Rv 6 c0 I d0 (fun _=>Al I)<|Rv 7 c0 I d0 (fun _=>Al I)<|bk h fun A0 A2 h=>?_
 obtain ⟨d1,p3,H0,M0,t3,Y1,V0⟩:=St.nth (α:=Tc) k0 .hd (AO F1 (Tt J0 E0)) A2
 obtain ⟨j1,q3,J1⟩:=BE (α:=Tc) k0 .hd M0
 obtain rfl:d1 = ⟨j1,0,none⟩:=by rw [J1] at H0; cases H0; rfl
 obtain ⟨K2,M2,P2,Q2,rfl,Z1,b2,d2,g2⟩:=eI Y1
 refine Rv 8 c0 I d0 (fun _=>Bf 8 j0 I H0 I I M0)<|Rv 9 c0 I d0 (fun _=>Bh 0 I)<|Rx 10 29362176 c0 I d0 (AQ (cs:=[.bool A0.fm.fN.fc,K2,.bool A0.fm.fD.fc,M2]) I I (ae V0 0 4))<|Rv 12 c0 I d0 (fun _=>Al I)<|Rv 13 c0 I d0 (fun _=>Al I)<|Rv 14 c0 I d0 (fun _=>Bf 8 g0 I G0 I I K0)<|Rv 15 c0 I d0 (fun _=>Bh 4 I)<|Rx 16 29360128 c0 I d0 (AQ (cs:=[.bool z0.fP.fN.fc,I2,.bool z0.fP.fD.fc,J2]) I I (ae U0 4 4))<|Rv 17 c0 I d0 (fun _=>Al I)<|Rv 18 c0 I d0 (fun _=>Al I)<|Rv 19 c0 I d0 (fun _=>Bf 8 j0 I H0 I I M0)<|Rv 20 c0 I d0 (fun _=>Bh 4 I)<|Rx 21 29360128 c0 I d0 (AQ (cs:=[.bool A0.fP.fN.fc,P2,.bool A0.fP.fD.fc,Q2]) I I (ae V0 4 4))<|bk h fun V2 C2 h=>AZ 11 4194303 c0 I .plain (bd 110) I (e2 I I) (fun p q=>aS_c n (k0.hL hL q) z0.fm (Ah U1 q) (Ah V1 q) A0.fm (Ah Z1 q) (Ah b2 q) C2) I fun R3 K3 x1 ⟨F3,G3,hu_,j2,k2⟩=>?_
 subst hu_
 obtain ⟨P0,x0⟩:=k0.agr x1
 refine bk h fun W2 D2 h=>AZ 22 8388607 c0 I .plain (bd 107) I (e2 I I) (fun p q=>bJ_c n (P0.hL hL q) z0.fP (Ah (Af W1 x0) q) (Ah (Af X1 x0) q) A0.fP (Ah (Af d2 x0) q) (Ah (Af g2 x0) q) D2) I fun U3 M3 z1 ⟨H3,I3,hu_,p2,q2⟩=>?_
 subst hu_
 obtain ⟨Q0,F0⟩:=P0.agr z1
 refine bk h fun X2 E2 h=>AZ 23 16777215 c0 I .plain (bd 106) I (e3 I I I) (fun p q=>aM_c n (Q0.hL hL q) (Ah (Af X0 (Tt x0 F0)) q) V2 (Ah (Af j2 F0) q) (Ah (Af k2 F0) q) W2 (Ah p2 q) (Ah q2 q) E2) I fun V3 U2 A1 ⟨J3,hu_,s2⟩=>?_
 subst hu_
 obtain ⟨u1,v1⟩:=Q0.agr A1
 refine Rv 24 c0 I d0 (fun _=>Bo I)<|AN (dk c0)<|Aw<|Am<|Ac I<|Ab (Bc (i:=j0) (j:=1) I I (by omega))<|Ag I<|Aa<|s1 (X2,j0 + 1,U2) u1 (Tt E0 (Tt x0 (Tt F0 v1))) s2 h
 refine Ba I ?_
 have h:=M1 _ h
 try dsimp only at h
 refine Aw<|Am<|Ac I<|Ab (Bc (i:=g0) (j:=1) I I (by omega))<|Ag I<|Aa<|q1 (t0,g0 + 1,q0) k0 (Tt J0 E0) X0 h
 refine Ba I ?_
 have h:=K1 _ h
 try dsimp only at h
 refine Ae<|Ac I<|bk h fun X3 F2 h=>jE (bd 108) I (e1 I) (fun p q=>aD_c n (D0.hL hL q) (Ah W0 q) F2) I fun W3 P3 B1 ⟨R2,hu_,t2⟩=>?_
 subst hu_
 obtain ⟨R0,v3⟩:=D0.agr B1
 refine Ab (Ai I I)<|Ab (Ai I I)<|Ag I<|Ag I<|Aa<|Ar I<|Au hb0 func41 I (.cons (.tmp I) (.cons (.tmp I) .nil)) I ?_
 cases h
 exact ⟨R0.ag,fun p q=>⟨R2,I,R0.kd t2 q⟩⟩
 refine Ae<|Ag I<|Ag I<|Aa<|Ar I ?_
 have u2:=Bm (α:=Ta) hS0 L
 refine Au hb0 func41 I (.cons (.tmp I) (.cons (.tmp I) .nil)) I ?_
 cases h
 exact ⟨hS0.ag,fun p q=>⟨vN,I,hS0.kd u2 q⟩⟩
 refine Ap<|Ap<|Ap<|Br I I<|Aa<|AE I<|Ae<|Ag I<|Ag I<|Aa<|Ar I ?_
 have v2:=Bm (α:=Ta) hS0 L
 refine Au hb0 func41 I (.cons (.tmp I) (.cons (.tmp I) .nil)) I ?_
 cases h
 exact ⟨hS0.ag,fun p q=>⟨vN,I,hS0.kd v2 q⟩⟩
def aj_l1 (n:Nat) (a1:Tb) (g0:Nat × (Lb Tc) -> Oa (Lb Tc)):Nat × (Lb Tc) -> Oa (Lb Tc)
  | (b0,c0)=>(if b0 < c0.length then (c0[b0]?).bind fun d0=>(aL_p n a1).bind fun k0=>(aS_p n d0.fm k0).bind fun p0=>(put c0 ((b0:Nat):Int) (⟨p0,d0.fP⟩:Tc)).bind fun j0=>g0 (b0 + 1,j0) else some c0)
def aj_p (n:Nat) (a0:Lb Ta) (a1:Tb):Oa ((Lb Ta) × Int):=
  (aw_p n a0).bind fun d0=>(if d0 = true then (aG_p n a1).bind fun g0=>(if g0 = true then (aX_p n a0).bind fun j0=>Option.bind (ao (aj_l1 n a1) n (0,j0)) (fun c0=>(aD_p n c0).bind fun b0=>some (b0.1,b0.2)) else some (([]:Lb Ta),(20:Int))) else some (([]:Lb Ta),(50:Int)))
theorem aj_c (n:Nat) {L w} (hL:hl L w) {a0:Lb Ta} {v0_0:Vc} (h0_0:Rep.R w L [v0_0] a0) (a1:Tb)  {r:(Lb Ta) × Int} (h:aj_p n a0 a1 = some r) :
 Cl 43 #[v0_0,.agg ((ab a1)).toArray] w (aj w fun w' u=>∃ v0_0:Vc,u = .tuple #[v0_0,vI r.2]/\Rep.R w' L [v0_0] r.1):=by
 unfold aj_p at h
 refine AL func43 I I I fun _ cs0 hb0=>Ae<|RG.bx (AK w) I I fun K3 z0 c0 V2=>Ag I<|Ag I<|Aa<|Aj<|Ae<|Ac I<|bk h fun C2 k2 h=>Bj (.bool C2) (bd 101) I (e1 I) (fun p q=>aw_c n (c0.hL0 hL q) (c0.k0 h0_0 q) k2) I<|Ab (Bz I)<|Aa<|MX.ifnb I h (fun p1 h=>?_) (fun p1 h=>?_)
 refine Aq<|Aj<|Ae<|Ab (AA I (c0.memA .hd))<|bk h fun D2 p2 h=>Bj (.bool D2) (bd 114) I (e1 I) (fun p q=>aG_c n (c0.hL0 hL q) a1 p2) I<|Ab (Bz I)<|Aa<|MX.ifnb I h (fun q1 h=>?_) (fun q1 h=>?_)
 refine Aq<|Ae<|Ac I<|bk h fun c1 q2 h=>jE (bd 109) I (e1 I) (fun p q=>cw (b0:=w.heap.size) (aX_c n (c0.hL hL q) (c0.km h0_0 q) q2) q (Nat.le_trans c0.ag.size q.size)) I fun M3 y0 Z2 ⟨C3,G0,g2,V0,D1⟩=>?_
 subst g2
 have H0:=cV c0 V0
 have W2:=gm c0 V0
 refine Ag I<|Aa<|Aj<|Ae<|Ag I<|Aa<|Av ?_
 obtain ⟨x3,M1,J1⟩:=am h
 refine BR (α:=Nat × (Lb Tc) × (Lb Vc)) (fun ⟨g0,j0,t0⟩=>[(3,vP z0),(6,y0),(7,vn g0)]) (fun ⟨g0,j0,t0⟩=>[rr w 158 Tc y0 j0.length t0,.cells z0 (ab a1) 34]) (fun ⟨g0,j0,t0⟩ b1=>Cells b1 (bl [rr w 158 Tc y0 j0.length t0,.cells z0 (ab a1) 34] ++ L) t0 j0) (fun ⟨g0,j0,t0⟩=>(g0,j0)) (0,c1,G0) M1 H0 (AJ (cs:=G0) (xs:=(c1:Lb Tc)) H0 L (cu D1)) ?_
 rintro G2 ⟨g0,j0,t0⟩ b1 v1 p0 y1 B0 h
 unfold aj_l1 at h
 try dsimp only at h
 refine Aj<|Ae<|Ac I<|Ac I ?_
 have c3:j0.length <= 4294967296:=St.rowLe (α:=Tc) p0 .hd
 obtain ⟨F2,H2,G1⟩:=St.rowV (α:=Tc) p0 .hd
 refine Ab (FV.lenV underlying150 I G1)<|Ab (AU (i:=g0) (j:=j0.length) I I)<|Aa<|AW I h (fun s1 h=>?_) (fun s1 h=>?_)
 refine Aq<|Aj<|Av<|du 12 fun d0 q0=>Rv 0 d0 I q0 (fun _=>Al I)<|Rv 1 d0 I q0 (fun _=>Al I)<|Rv 2 d0 I q0 (fun _=>Al I)<|Rv 3 d0 I q0 (fun _=>Al I)<|bk h fun s0 F0 h=>?_
 obtain ⟨d1,I2,C0,P0,Q2,P1,K1⟩:=St.nth (α:=Tc) p0 .hd B0 F0
 obtain ⟨j1,J2,H1⟩:=BE (α:=Tc) p0 .hd P0
 obtain rfl:d1 = ⟨j1,0,none⟩:=by rw [H1] at C0; cases C0; rfl
 obtain ⟨v2,x2,y3,z3,rfl,Q1,R1,j3,k3⟩:=eI P1
 refine Rv 4 d0 I q0 (fun _=>Bf 8 g0 I C0 I I P0)<|Rv 5 d0 I q0 (fun _=>Bh 0 I)<|Rx 6 7680 d0 I q0 (AQ (cs:=[.bool s0.fm.fN.fc,v2,.bool s0.fm.fD.fc,x2]) I I (ae K1 0 4))<|Rx 7 7936 d0 I q0 (AA I (p0.memA .t1))<|bk h fun E2 s2 h=>AZ 8 511 d0 I .plain (bd 104) I (e1 I) (fun p q=>aL_c n (p0.hL hL q) a1 s2) I fun P3 H3 A1 ⟨A3,B3,hu_,U1,V1⟩=>?_
 subst hu_
 obtain ⟨I0,x0⟩:=p0.agr A1
 refine bk h fun u0 t2 h=>AZ 9 1023 d0 I .plain (bd 110) I (e2 I I) (fun p q=>aS_c n (I0.hL hL q) s0.fm (Ah (Af Q1 x0) q) (Ah (Af R1 x0) q) E2 (Ah U1 q) (Ah V1 q) t2) I fun Q3 I3 B1 ⟨W0,X0,hu_,R0,U0⟩=>?_
 subst hu_
 obtain ⟨v0,K0⟩:=I0.agr B1
 have E0:=AO B0 (Tt x0 K0)
 obtain ⟨g1,K2,D0,Q0,R2,W1,d3⟩:=St.nth (α:=Tc) v0 .hd E0 F0
 obtain ⟨k1,M2,M0⟩:=BE (α:=Tc) v0 .hd Q0
 obtain rfl:g1 = ⟨k1,0,none⟩:=by rw [M0] at D0; cases D0; rfl
 obtain ⟨D3,E3,F3,G3,rfl,p3,q3,s3,t3⟩:=eI W1
 refine Rv 10 d0 I q0 (fun _=>Bf 8 g0 I D0 I I Q0)<|Rv 11 d0 I q0 (fun _=>Bh 0 I) ?_
 obtain ⟨P2,I1,b3,U2,X1,g3,F1⟩:=St.nthAt (α:=Tc) v0 .hd E0 F0 M0
 obtain ⟨y2,z2,Y0,Z0,rfl,u3,v3,Y1,Z1⟩:=eI X1
 refine bk h fun B2 j2 h=>BJ (i:=12) (rk d0) (RO.acts (m' :=8191) (sk d0) I I .plain (Acts.setPart (α:=Tc) (i:=g0) (tot:=0) (ds:=[.bool s0.fm.fN.fc,y2,.bool s0.fm.fD.fc,z2,.bool s0.fP.fN.fc,Y0,.bool s0.fP.fD.fc,Z0]) (news:=[.bool u0.fN.fc,W0,.bool u0.fD.fc,X0]) (full:=[.bool u0.fN.fc,W0,.bool u0.fD.fc,X0,.bool s0.fP.fN.fc,Y0,.bool s0.fP.fD.fc,Z0]) j2 v0 I1 (fun _=>.hd) E0 F1 I I I I I I (iF u0 R0 U0 s0.fP Y1 Z1) I (o4 I (Az R0) I (Az U0))) (fun R3 ⟨u1,x1,z1,E1⟩=>?_))
 refine AN (dk d0)<|Aw<|Am<|Ac I<|Ab (Bc (i:=g0) (j:=1) I I (by omega))<|Ag I<|Aa<|v1 (g0 + 1,B2,u1) x1 (Tt y1 (Tt x0 (Tt K0 z1))) E1 h
 refine Ba I ?_
 have h:=J1 _ h
 try dsimp only at h
 refine Ae<|Ac I ?_
 have A0:=Bw p0 .hd
 have X2:=Bx p0 .hd
 refine bk h fun V3 u2 h=>jE (bd 108) I (e1 I) (fun p q=>aD_c n (A0.hL hL q) (Ah (By (α:=Tc) (v:=y0) (xs:=j0) A0 L (Bg (α:=Tc) p0 .hd B0 hL)) q) u2) I fun U3 J3 C1 ⟨A2,hu_,b2⟩=>?_
 subst hu_
 obtain ⟨J0,Y2⟩:=A0.agr C1
 refine Ab (Ai I I)<|Ab (Ai I I)<|Ag I<|Ag I<|Aa<|Ar I<|Au hb0 func43 I (.cons (.tmp I) (.cons (.tmp I) .nil)) I ?_
 cases h
 exact ⟨J0.ag,fun p q=>⟨A2,I,J0.kd b2 q⟩⟩
 refine Ae<|Ag I<|Ag I<|Aa<|Ar I ?_
 have c2:=Bm (α:=Ta) c0 L
 refine Au hb0 func43 I (.cons (.tmp I) (.cons (.tmp I) .nil)) I ?_
 cases h
 exact ⟨c0.ag,fun p q=>⟨vN,I,c0.kd c2 q⟩⟩
 refine Ae<|Ag I<|Ag I<|Aa<|Ar I ?_
 have d2:=Bm (α:=Ta) c0 L
 refine Au hb0 func43 I (.cons (.tmp I) (.cons (.tmp I) .nil)) I ?_
 cases h
 exact ⟨c0.ag,fun p q=>⟨vN,I,c0.kd d2 q⟩⟩
def ak_l1 (n:Nat) (g0:Lb Tc) (a1:Tb) (j0:(Lb Tc) × Nat -> Oa (Lb Tc)):(Lb Tc) × Nat -> Oa (Lb Tc)
  | (d0,b0)=>(if b0 < g0.length then (g0[b0]?).bind fun c0=>(aL_p n a1).bind fun k0=>(bJ_p n c0.fm k0).bind fun p0=>(aM_p n d0 p0 c0.fP).bind fun q0=>j0 (q0,b0 + 1) else some d0)
def ak_p (n:Nat) (a0:Lb Ta) (a1:Tb):Oa ((Lb Ta) × Int):=
  (aw_p n a0).bind fun d0=>(if d0 = true then (aG_p n a1).bind fun g0=>(if g0 = true then (aX_p n a0).bind fun j0=>Option.bind (ao (ak_l1 n j0 a1) n (([]:Lb Tc),0)) (fun c0=>(aD_p n c0).bind fun b0=>some (b0.1,b0.2)) else some (([]:Lb Ta),(20:Int))) else some (([]:Lb Ta),(50:Int)))
theorem ak_c (n:Nat) {L w} (hL:hl L w) {a0:Lb Ta} {v0_0:Vc} (h0_0:Rep.R w L [v0_0] a0) (a1:Tb)  {r:(Lb Ta) × Int} (h:ak_p n a0 a1 = some r) :
 Cl 44 #[v0_0,.agg ((ab a1)).toArray] w (aj w fun w' u=>∃ v0_0:Vc,u = .tuple #[v0_0,vI r.2]/\Rep.R w' L [v0_0] r.1):=by
 unfold ak_p at h
 refine AL func44 I I I fun _ cs0 hb0=>Ae<|RG.bx (AK w) I I fun P2 z0 d0 x2=>Ag I<|Ag I<|Aa<|Aj<|Ae<|Ac I<|bk h fun d2 K1 h=>Bj (.bool d2) (bd 101) I (e1 I) (fun p q=>aw_c n (d0.hL0 hL q) (d0.k0 h0_0 q) K1) I<|Ab (Bz I)<|Aa<|MX.ifnb I h (fun U0 h=>?_) (fun U0 h=>?_)
 refine Aq<|Aj<|Ae<|Ab (AA I (d0.memA .hd))<|bk h fun k2 Q1 h=>Bj (.bool k2) (bd 114) I (e1 I) (fun p q=>aG_c n (d0.hL0 hL q) a1 Q1) I<|Ab (Bz I)<|Aa<|MX.ifnb I h (fun V0 h=>?_) (fun V0 h=>?_)
 refine Aq<|Ae<|Ac I<|bk h fun v0 U1 h=>jE (bd 109) I (e1 I) (fun p q=>cw (b0:=w.heap.size) (aX_c n (d0.hL hL q) (d0.km h0_0 q) U1) q (Nat.le_trans d0.ag.size q.size)) I fun W2 D0 A2 ⟨I2,A0,H1,K0,g1⟩=>?_
 subst H1
 have B0:=cV d0 K0
 have z2:=gm d0 K0
 refine Ag I<|Aa<|Ae<|Ag I<|Aa<|Aj<|Ae<|Ag I<|Aa<|Av ?_
 obtain ⟨C2,q1,p1⟩:=am h
 refine BR (α:=(Lb Tc) × Nat × Vc) (fun ⟨u0,j0,s0⟩=>[(3,vP z0),(6,D0),(7,s0),(8,vn j0)]) (fun ⟨u0,j0,s0⟩=>[rr w 158 Tc D0 v0.length A0,.cells z0 (ab a1) 34]) (fun ⟨u0,j0,s0⟩ M0=>Rep.R M0 (bl [rr w 158 Tc D0 v0.length A0,.cells z0 (ab a1) 34] ++ L) [s0] u0) (fun ⟨u0,j0,s0⟩=>(u0,j0)) (([]:Lb Tc),0,vN) q1 B0 (Bm (α:=Tc) B0 L) ?_
 rintro q2 ⟨u0,j0,s0⟩ M0 W0 p0 H0 J0 h
 unfold ak_l1 at h
 try dsimp only at h
 refine Aj<|Ae<|Ac I<|Ac I ?_
 have B2:v0.length <= 4294967296:=St.rowLe (α:=Tc) p0 .hd
 obtain ⟨p2,s2,j1⟩:=St.rowV (α:=Tc) p0 .hd
 refine Ab (FV.lenV underlying150 I j1)<|Ab (AU (i:=j0) (j:=v0.length) I I)<|Aa<|AW I h (fun R0 h=>?_) (fun R0 h=>?_)
 refine Aq<|Aj<|Av<|du 16 fun c0 g0=>Rv 0 c0 I g0 (fun _=>Al I)<|Rv 1 c0 I g0 (fun _=>Al I)<|Rv 2 c0 I g0 (fun _=>Al I)<|bk h fun t0 I1 h=>?_
 obtain ⟨P0,t2,y0,C0,v2,s1,I0⟩:=St.nth (α:=Tc) p0 .hd (AO (AJ (cs:=A0) (xs:=(v0:Lb Tc)) B0 L (cu g1)) H0) I1
 obtain ⟨Q0,u2,k1⟩:=BE (α:=Tc) p0 .hd C0
 obtain rfl:P0 = ⟨Q0,0,none⟩:=by rw [k1] at y0; cases y0; rfl
 obtain ⟨V1,W1,X1,Y1,rfl,u1,v1,x1,y1⟩:=eI s1
 refine Rv 3 c0 I g0 (fun _=>Bf 8 j0 I y0 I I C0)<|Rv 4 c0 I g0 (fun _=>Bh 0 I)<|Rx 5 49408 c0 I g0 (AQ (cs:=[.bool t0.fm.fN.fc,V1,.bool t0.fm.fD.fc,W1]) I I (ae I0 0 4))<|Rx 6 49536 c0 I g0 (AA I (p0.memA .t1))<|Rv 9 c0 I g0 (fun _=>Al I)<|Rv 10 c0 I g0 (fun _=>Al I)<|Rv 11 c0 I g0 (fun _=>Bf 8 j0 I y0 I I C0)<|Rv 12 c0 I g0 (fun _=>Bh 4 I)<|Rx 13 49152 c0 I g0 (AQ (cs:=[.bool t0.fP.fN.fc,X1,.bool t0.fP.fD.fc,Y1]) I I (ae I0 4 4))<|bk h fun c2 J1 h=>AZ 7 16127 c0 I .plain (bd 104) I (e1 I) (fun p q=>aL_c n (p0.hL hL q) a1 J1) I fun Q2 J2 Z0 ⟨D2,E2,hu_,z1,A1⟩=>?_
 subst hu_
 obtain ⟨E0,q0⟩:=p0.agr Z0
 refine bk h fun g2 M1 h=>AZ 8 16383 c0 I .plain (bd 107) I (e2 I I) (fun p q=>bJ_c n (E0.hL hL q) t0.fm (Ah (Af u1 q0) q) (Ah (Af v1 q0) q) c2 (Ah z1 q) (Ah A1 q) M1) I fun R2 K2 b1 ⟨F2,G2,hu_,B1,C1⟩=>?_
 subst hu_
 obtain ⟨F0,x0⟩:=E0.agr b1
 refine bk h fun j2 P1 h=>AZ 14 32767 c0 I .plain (bd 106) I (e3 I I I) (fun p q=>aM_c n (F0.hL hL q) (Ah (Af J0 (Tt q0 x0)) q) g2 (Ah B1 q) (Ah C1 q) t0.fP (Ah (Af x1 (Tt q0 x0)) q) (Ah (Af y1 (Tt q0 x0)) q) P1) I fun U2 b2 c1 ⟨H2,hu_,D1⟩=>?_
 subst hu_
 obtain ⟨X0,Y0⟩:=F0.agr c1
 refine Rv 15 c0 I g0 (fun _=>Bo I)<|AN (dk c0)<|Aw<|Am<|Ac I<|Ab (Bc (i:=j0) (j:=1) I I (by omega))<|Ag I<|Aa<|W0 (j2,j0 + 1,b2) X0 (Tt H0 (Tt q0 (Tt x0 Y0))) D1 h
 refine Ba I ?_
 have h:=p1 _ h
 try dsimp only at h
 refine Ae<|Ac I<|bk h fun X2 R1 h=>jE (bd 108) I (e1 I) (fun p q=>aD_c n (p0.hL hL q) (Ah J0 q) R1) I fun V2 M2 d1 ⟨Z1,hu_,E1⟩=>?_
 subst hu_
 obtain ⟨G0,y2⟩:=p0.agr d1
 refine Ab (Ai I I)<|Ab (Ai I I)<|Ag I<|Ag I<|Aa<|Ar I<|Au hb0 func44 I (.cons (.tmp I) (.cons (.tmp I) .nil)) I ?_
 cases h
 exact ⟨G0.ag,fun p q=>⟨Z1,I,G0.kd E1 q⟩⟩
 refine Ae<|Ag I<|Ag I<|Aa<|Ar I ?_
 have F1:=Bm (α:=Ta) d0 L
 refine Au hb0 func44 I (.cons (.tmp I) (.cons (.tmp I) .nil)) I ?_
 cases h
 exact ⟨d0.ag,fun p q=>⟨vN,I,d0.kd F1 q⟩⟩
 refine Ae<|Ag I<|Ag I<|Aa<|Ar I ?_
 have G1:=Bm (α:=Ta) d0 L
 refine Au hb0 func44 I (.cons (.tmp I) (.cons (.tmp I) .nil)) I ?_
 cases h
 exact ⟨d0.ag,fun p q=>⟨vN,I,d0.kd G1 q⟩⟩

def bI_p (n:Nat) (a0:Lb Ta) (a1:Th) (a2:Th) (a3:Tl) (a4:Ti):Oa Bool:=
  (cu_p n).bind fun B1=>(if B1 = true then (cE_p n a0 a1 a3).bind fun b0=>(am_p n a2).bind fun p1=>(am_p n a2).bind fun c0=>(bp_p n b0.1 b0.2.1).bind fun p0=>(ar_p n b0.1 b0.2.1).bind fun q0=>(aa_p n p0.1 q0.1).bind fun v1=>(if v1 = true then (if p0.2 = q0.2 then (ay_p n a4).bind fun d0=>(aO_p n b0.1 a3.fA).bind fun s0=>(aj_p n b0.1 a3.fA).bind fun t0=>(aJ_p n b0.1 a3.fA).bind fun u0=>(ak_p n b0.1 a3.fA).bind fun v0=>(aa_p n s0.1 t0.1).bind fun x1=>(if x1 = true then (if s0.2 = t0.2 then (aa_p n u0.1 v0.1).bind fun y1=>(if y1 = true then (if u0.2 = v0.2 then (aO_p n b0.1 d0).bind fun x0=>(aj_p n b0.1 d0).bind fun y0=>(aJ_p n b0.1 d0).bind fun z0=>(ak_p n b0.1 d0).bind fun A0=>(aa_p n x0.1 y0.1).bind fun z1=>(if z1 = true then (if x0.2 = y0.2 then (aa_p n z0.1 A0.1).bind fun A1=>(if A1 = true then (if z0.2 = A0.2 then (bp_p n b0.2.1 p1).bind fun B0=>(ar_p n b0.2.1 p1).bind fun C0=>(aa_p n B0.1 C0.1).bind fun C1=>(if C1 = true then (if B0.2 = C0.2 then (ay_p n a4).bind fun g0=>(aO_p n b0.2.1 a3.fA).bind fun D0=>(aj_p n b0.2.1 a3.fA).bind fun E0=>(aJ_p n b0.2.1 a3.fA).bind fun F0=>(ak_p n b0.2.1 a3.fA).bind fun G0=>(aa_p n D0.1 E0.1).bind fun D1=>(if D1 = true then (if D0.2 = E0.2 then (aa_p n F0.1 G0.1).bind fun E1=>(if E1 = true then (if F0.2 = G0.2 then (aO_p n b0.2.1 g0).bind fun H0=>(aj_p n b0.2.1 g0).bind fun I0=>(aJ_p n b0.2.1 g0).bind fun J0=>(ak_p n b0.2.1 g0).bind fun K0=>(aa_p n H0.1 I0.1).bind fun F1=>(if F1 = true then (if H0.2 = I0.2 then (aa_p n J0.1 K0.1).bind fun G1=>(if G1 = true then (if J0.2 = K0.2 then (bp_p n c0 b0.2.2).bind fun M0=>(ar_p n c0 b0.2.2).bind fun P0=>(aa_p n M0.1 P0.1).bind fun H1=>(if H1 = true then (if M0.2 = P0.2 then (ay_p n a4).bind fun j0=>(aO_p n c0 a3.fA).bind fun Q0=>(aj_p n c0 a3.fA).bind fun R0=>(aJ_p n c0 a3.fA).bind fun U0=>(ak_p n c0 a3.fA).bind fun V0=>(aa_p n Q0.1 R0.1).bind fun I1=>(if I1 = true then (if Q0.2 = R0.2 then (aa_p n U0.1 V0.1).bind fun J1=>(if J1 = true then (if U0.2 = V0.2 then (aO_p n c0 j0).bind fun W0=>(aj_p n c0 j0).bind fun X0=>(aJ_p n c0 j0).bind fun Y0=>(ak_p n c0 j0).bind fun Z0=>(aa_p n W0.1 X0.1).bind fun K1=>(if K1 = true then (if W0.2 = X0.2 then (aa_p n Y0.1 Z0.1).bind fun M1=>(if M1 = true then (if Y0.2 = Z0.2 then (bp_p n b0.1 b0.1).bind fun b1=>(ar_p n b0.1 b0.1).bind fun c1=>(aa_p n b1.1 c1.1).bind fun P1=>(if P1 = true then (if b1.2 = c1.2 then (ay_p n a4).bind fun k0=>(aO_p n b0.1 a3.fA).bind fun d1=>(aj_p n b0.1 a3.fA).bind fun g1=>(aJ_p n b0.1 a3.fA).bind fun j1=>(ak_p n b0.1 a3.fA).bind fun k1=>(aa_p n d1.1 g1.1).bind fun Q1=>(if Q1 = true then (if d1.2 = g1.2 then (aa_p n j1.1 k1.1).bind fun R1=>(if R1 = true then (if j1.2 = k1.2 then (aO_p n b0.1 k0).bind fun q1=>(aj_p n b0.1 k0).bind fun s1=>(aJ_p n b0.1 k0).bind fun t1=>(ak_p n b0.1 k0).bind fun u1=>(aa_p n q1.1 s1.1).bind fun U1=>(if U1 = true then (if q1.2 = s1.2 then (aa_p n t1.1 u1.1).bind fun V1=>(if V1 = true then (if t1.2 = u1.2 then some true else some false) else some false) else some false) else some false) else some false) else some false) else some false) else some false) else some false) else some false) else some false) else some false) else some false) else some false) else some false) else some false) else some false) else some false) else some false) else some false) else some false) else some false) else some false) else some false) else some false) else some false) else some false) else some false) else some false) else some false) else some false) else some false) else some false) else some false) else some false) else some false) else some false) else some false) else some false) else some false) else some false)
theorem bI_c (n:Nat) {L w} (hL:hl L w) {a0:Lb Ta} {v0_0:Vc} (h0_0:Rep.R w L [v0_0] a0) (a1:Th) {v1_0:Vc} (h1_0:Rep.R w L [v1_0] a1.fL) (a2:Th) {v2_0:Vc} (h2_0:Rep.R w L [v2_0] a2.fL) (a3:Tl) (a4:Ti) {v4_1:Vc} (h4_1:Rep.R w L [v4_1] a4.fN.fBits) {v4_4:Vc} (h4_4:Rep.R w L [v4_4] a4.fD.fBits)  {r:Bool} (h:bI_p n a0 a1 a2 a3 a4 = some r) :
 Cl 5 #[v0_0,.agg #[v1_0],.agg #[v2_0],.agg ((pi a3)).toArray,.agg #[.bool a4.fN.fc,v4_1,.int .u32 (a4.fN.fo.toNat:Int),.bool a4.fD.fc,v4_4,.int .u32 (a4.fD.fo.toNat:Int)]] w (aj w fun _ u=>u = .bool r):=by
 unfold bI_p at h
 refine AL func5 I I I fun _ cs0 hb0=>Ae<|RG.bx (AK w) I I fun w11 b14 s6 P04=>RG.bx s6 I I fun w16 b19 u6 Q04=>RG.bx u6 I I fun w21 b24 y6 R04=>RG.bx y6 I I fun w26 b29 Q0 U04=>Ag I<|Aa<|Aj<|Ae<|bk h fun y30 E00 h=>Bj (.bool y30) (bd 12) I ap (fun p q=>cu_c n (Q0.hL0 hL q)  E00) I<|Ab (Bz I)<|Aa<|MX.ifnb I h (fun x5 h=>?_) (fun x5 h=>?_)
 refine Aq<|Ae<|Ac I<|Ab (AA I (Q0.memA .t3))<|Ab (AA I (Q0.memA .t1))<|bk h fun y32 H00 h=>jE (bd 40) I (e3 I I I) (fun p q=>cE_c n (Q0.hL hL q) (Q0.km h0_0 q) a1 (Q0.km h1_0 q) a3 H00) I fun w33 D06 R7 ⟨b0,j0,G0,hu_,c0,p0,D1⟩=>?_
 subst hu_
 obtain ⟨D6,V04⟩:=Q0.agr R7
 refine RG.nl [vN,vN,vN] D6 fun w45 b48 J6 R0=>AT [b0,j0,G0] J6 .hd (o3 (Az (Af c0 R0)) (Az (Af p0 R0)) (Az (Af D1 R0))) fun w52 B0 A1=>Aa<|Aj<|Aj<|du 22 fun d0 g0=>Rv 0 d0 I g0 (fun _=>AI (m:=1) (k:=0) (len:=3) I I I I (by omega))<|Rx 1 1048592 d0 I g0 (Bn I ((B0.memA .hd) 0 _ I))<|Rv 2 d0 I g0 (fun _=>AI (m:=1) (k:=1) (len:=3) I I I I (by omega))<|Rx 3 1048592 d0 I g0 (Bn I ((B0.memA .hd) 1 _ I)) ?_
 have P4:=Af c0 (Tt R0 A1)
 obtain ⟨A57,c58,U9,_⟩:=Bi P4
 obtain ⟨A61,c62,V9,_⟩:=Bi (Af p0 (Tt R0 A1))
 refine Rv 4 d0 I g0 (fun _=>AS (vs:=[b0,j0]) (u:=.agg #[b0,j0]) (e2 I I) (fun p=>by rw [U9,V9]; try kernel_rfl))<|Rv 5 d0 I g0 (fun _=>AI (m:=1) (k:=1) (len:=3) I I I I (by omega))<|Rx 6 1049088 d0 I g0 (Bn I ((B0.memA .hd) 1 _ I))<|Rx 7 1067776 d0 I g0 (AA I (B0.memA .t3))<|Rx 10 1067008 d0 I g0 (AA I (B0.memA .t3))<|Rv 12 d0 I g0 (fun _=>AI (m:=1) (k:=2) (len:=3) I I I I (by omega))<|Rx 13 1064960 d0 I g0 (Bn I ((B0.memA .hd) 2 _ I))<|Rv 15 d0 I g0 (fun _=>AI (m:=1) (k:=0) (len:=3) I I I I (by omega))<|Rx 16 1572864 d0 I g0 (Bn I ((B0.memA .hd) 0 _ I))<|Rv 17 d0 I g0 (fun _=>AI (m:=1) (k:=0) (len:=3) I I I I (by omega))<|Rx 18 1572864 d0 I g0 (Bn I ((B0.memA .hd) 0 _ I)) ?_
 obtain ⟨A65,c66,W9,_⟩:=Bi P4
 refine Rv 19 d0 I g0 (fun _=>AS (vs:=[b0,b0]) (u:=.agg #[b0,b0]) (e2 I I) (fun p=>by rw [W9]; try kernel_rfl))<|Rv 21 d0 I g0 (fun _=>Al I)<|bk h fun y68 J01 h=>AZ 8 3126783 d0 I .plain (bd 33) I (e1 I) (fun p q=>am_c n (B0.hL hL q) a2 (B0.km h2_0 q) J01) I fun w69 M0 C8 ⟨v74,hu_,E1⟩=>?_
 subst hu_
 obtain ⟨c3,P3⟩:=B0.agr C8
 have C1:=Tt R0 (Tt A1 P3)
 obtain ⟨A76,c77,X9,_⟩:=Bi (Af p0 C1)
 obtain ⟨A81,c82,Y9,_⟩:=Bi E1
 refine Rv 9 d0 I g0 (fun _=>AS (vs:=[j0,M0]) (u:=.agg #[j0,M0]) (e2 I I) (fun p=>by rw [X9,Y9]; try kernel_rfl))<|bk h fun y84 W01 h=>AZ 11 3129343 d0 I .plain (bd 33) I (e1 I) (fun p q=>am_c n (c3.hL hL q) a2 (c3.km h2_0 q) W01) I fun w85 P0 F8 ⟨v90,hu_,q0⟩=>?_
 subst hu_
 obtain ⟨b7,U0⟩:=c3.agr F8
 obtain ⟨A92,c93,Z9,_⟩:=Bi q0
 have U4:=Af D1 (Tt C1 U0)
 obtain ⟨A95,c96,b00,_⟩:=Bi U4
 refine Rv 14 d0 I g0 (fun _=>AS (vs:=[P0,G0]) (u:=.agg #[P0,G0]) (e2 I I) (fun p=>by rw [Z9,b00]; try kernel_rfl)) ?_
 obtain ⟨A99,A04,K9,_⟩:=Bi (Af c0 (Tt C1 U0))
 obtain ⟨H03,B04,M9,_⟩:=Bi (Af p0 (Tt C1 U0))
 obtain ⟨I03,C04,P9,_⟩:=Bi (Af E1 U0)
 obtain ⟨J03,D04,Q9,_⟩:=Bi q0
 obtain ⟨K03,E04,R9,_⟩:=Bi U4
 refine Rv 20 d0 I g0 (fun _=>AS (vs:=[.agg #[b0,j0],.agg #[j0,M0],.agg #[P0,G0],.agg #[b0,b0]]) (u:=.agg #[b0,j0,j0,M0,P0,G0,b0,b0]) (e4 I I I I) (fun p=>by rw [K9,M9,P9,Q9,R9]; try kernel_rfl))<|AN (dk d0)<|Av<|MX.loop1<|Ae<|Ab (AU (i:=0) (j:=4) I I)<|Aa<|Aj<|AE I<|Aq<|Aj<|Av<|Ae<|Ab (FV.idxN (cs:=[b0,j0,j0,M0,P0,G0,b0,b0]) (k:=0) (m:=2) (len:=4) I I I I I (by omega) I)<|RG.nl [vN,vN] b7 fun u07 Y03 q6 d3=>?_
 have B1:=Tt C1 (Tt U0 d3)
 refine AT [b0,j0] q6 .hd (o2 (Az (Af c0 B1)) (Az (Af p0 B1))) fun v07 F1 s1=>Aa<|Ae<|Ab (AI (m:=1) (k:=0) (len:=2) I I I I (by omega))<|Bd I ((F1.memA .hd) 0 _ I)<|Ab (AI (m:=1) (k:=1) (len:=2) I I I I (by omega))<|Bd I ((F1.memA .hd) 1 _ I)<|bk h fun X01 c00 h=>jE (bd 24) I (e2 I I) (fun p q=>bp_c n (F1.hL hL q) (Ah (Af c0 (Tt B1 s1)) q) (Ah (Af p0 (Tt B1 s1)) q) c00) I fun x07 j06 z7 ⟨Y04,hu_,G8⟩=>?_
 subst hu_
 obtain ⟨G1,g3⟩:=F1.agr z7
 refine Ac I<|Ab (Ai I I)<|Ab (Ai I I)<|Ag I<|Ag I<|Aa<|Ae<|Ab (AI (m:=1) (k:=0) (len:=2) I I I I (by omega))<|Bd I ((G1.memA .hd) 0 _ I)<|Ab (AI (m:=1) (k:=1) (len:=2) I I I I (by omega))<|Bd I ((G1.memA .hd) 1 _ I)<|bk h fun Y01 d00 h=>?_
 have Q3:=Tt B1 (Tt s1 g3)
 refine jE (bd 41) I (e2 I I) (fun p q=>ar_c n (G1.hL hL q) (Ah (Af c0 Q3) q) (Ah (Af p0 Q3) q) d00) I fun y07 k06 A7 ⟨Z04,hu_,H8⟩=>?_
 subst hu_
 obtain ⟨s0,K2⟩:=G1.agr A7
 refine Ac I<|Ab (Ai I I)<|Ab (Ai I I)<|Ag I<|Ag I<|Aa<|Aj<|Ae<|Ac I<|Ac I<|bk h fun Z01 g00 h=>Bj (.bool Z01) (bd 39) I (e2 I I) (fun p q=>aa_c n (s0.hL0 hL q) (s0.kd (Af G8 K2) q) (s0.kd H8 q) g00) I<|Ab (Bz I)<|Ac I<|BP (s:=78) I h (fun d5 h=>?_) (fun d5 h=>?_)
 refine AM (Al I)<|AM (Al I)<|AM (BB (i:=X01.2) (j:=Y01.2) I I)<|Bs I I<|Aa<|BI I h (fun g5 h=>?_) (fun g5 h=>?_)
 refine Aq<|Aj<|du 6 fun V0 j1=>Rv 0 V0 I j1 (fun _=>Bh 2 I)<|Rx 1 16 V0 I j1 (AQ (cs:=(ab a3.fA)) I I (ae (s0.memA .t3) 2 16))<|Rx 2 24 V0 I j1 (AA I (s0.memA .t2))<|bk h fun H0 j00 h=>RD.cq 3 15 16 (.agg ((ab H0)).toArray) V0 I j1 (bd 42) I (e1 I) (fun p q=>ay_c n (s0.hL0 hL q) a4 (s0.k0 h4_1 q) (s0.k0 h4_4 q) j00) I<|Rv 4 V0 I j1 (fun _=>AS (vs:=[.agg ((ab a3.fA)).toArray,.agg ((ab H0)).toArray]) (u:=.agg ((ab a3.fA ++ ab H0)).toArray) (e2 I I) (fun p=>by kernel_rfl))<|Rv 5 V0 I j1 (fun _=>Al I)<|AN (dk V0)<|Av<|MX.loop1<|Ae<|Ab (AU (i:=0) (j:=2) I I)<|Aa<|Aj<|AE I<|Aq<|Aj<|Av<|Ae<|Ab (FV.idxN (cs:=(ab a3.fA ++ ab H0)) (k:=0) (m:=16) (len:=2) I I I I I (by omega) I)<|RG.nl zL s0 fun z07 b04 t6 j3=>AT (ab a3.fA) t6 .hd (ai I) fun B07 H1 k3=>Aa<|Ae<|Ab (AI (m:=1) (k:=0) (len:=2) I I I I (by omega))<|Bd I ((H1.memA .t1) 0 _ I)<|Ab (AA I (H1.memA .hd))<|bk h fun b02 k00 h=>?_
 have R3:=Tt Q3 (Tt K2 (Tt j3 k3))
 refine jE (bd 23) I (e2 I I) (fun p q=>aO_c n (H1.hL hL q) (Ah (Af c0 R3) q) a3.fA k00) I fun C07 p06 B7 ⟨b05,hu_,I8⟩=>?_
 subst hu_
 obtain ⟨I1,M2⟩:=H1.agr B7
 refine Ac I<|Ab (Ai I I)<|Ab (Ai I I)<|Ag I<|Ag I<|Aa<|Ae<|Ab (AI (m:=1) (k:=0) (len:=2) I I I I (by omega))<|Bd I ((I1.memA .t1) 0 _ I)<|Ab (AA I (I1.memA .hd))<|bk h fun c02 p00 h=>jE (bd 43) I (e2 I I) (fun p q=>aj_c n (I1.hL hL q) (Ah (Af c0 (Tt R3 M2)) q) a3.fA p00) I fun D07 q06 C7 ⟨c05,hu_,J8⟩=>?_
 subst hu_
 obtain ⟨J1,P2⟩:=I1.agr C7
 refine Ac I<|Ab (Ai I I)<|Ab (Ai I I)<|Ag I<|Ag I<|Aa<|Ae<|Ab (AI (m:=1) (k:=0) (len:=2) I I I I (by omega))<|Bd I ((J1.memA .t1) 0 _ I)<|Ab (AA I (J1.memA .hd))<|bk h fun d02 q00 h=>?_
 have U3:=Tt R3 (Tt M2 P2)
 refine jE (bd 29) I (e2 I I) (fun p q=>aJ_c n (J1.hL hL q) (Ah (Af c0 U3) q) a3.fA q00) I fun E07 s06 D7 ⟨d05,hu_,K8⟩=>?_
 subst hu_
 obtain ⟨K1,Z0⟩:=J1.agr D7
 refine Ac I<|Ab (Ai I I)<|Ab (Ai I I)<|Ag I<|Ag I<|Aa<|Ae<|Ab (AI (m:=1) (k:=0) (len:=2) I I I I (by omega))<|Bd I ((K1.memA .t1) 0 _ I)<|Ab (AA I (K1.memA .hd))<|bk h fun g02 s00 h=>jE (bd 44) I (e2 I I) (fun p q=>ak_c n (K1.hL hL q) (Ah (Af c0 (Tt U3 Z0)) q) a3.fA s00) I fun F07 t06 E7 ⟨g05,hu_,M8⟩=>?_
 subst hu_
 obtain ⟨t0,b1⟩:=K1.agr E7
 refine Ac I<|Ab (Ai I I)<|Ab (Ai I I)<|Ag I<|Ag I<|Aa<|Ae<|Ac I<|Ac I<|bk h fun j02 t00 h=>Bj (.bool j02) (bd 39) I (e2 I I) (fun p q=>aa_c n (t0.hL0 hL q) (t0.kd (Af I8 (Tt P2 (Tt Z0 b1))) q) (t0.kd (Af J8 (Tt Z0 b1)) q) t00) I<|Ab (Bz I)<|Ac I<|BP (s:=123) I h (fun j5 h=>?_) (fun j5 h=>?_)
 refine AM (Al I)<|AM (Al I)<|AM (BB (i:=b02.2) (j:=c02.2) I I)<|Bs I I<|Ac I<|RG.ifn (s:=128) I h (fun k5 h=>?_) (fun k5 h=>?_)
 refine AM (Al I)<|AM (Al I)<|bk h fun k02 u00 h=>BG (v:=.bool k02) (fst:=[]) (cap:=[]) (.yes I I) (bd 39) I (e2 I I) (fun p q=>aa_c n (t0.hL0 hL q) (t0.kd (Af K8 b1) q) (t0.kd M8 q) u00) I<|AM (Bz I)<|Bs I I<|Ac I<|BP (s:=134) I h (fun p5 h=>?_) (fun p5 h=>?_)
 refine AM (Al I)<|AM (Al I)<|AM (BB (i:=d02.2) (j:=g02.2) I I)<|Bs I I<|Aa<|BI I h (fun q5 h=>?_) (fun q5 h=>?_)
 refine Aq<|Aw<|Am<|Ab (BL (i:=0) (j:=1) (r:=1) I I (by decide))<|Ac I<|Aa<|Bp ?_
 obtain ⟨v6,p3⟩:=AB t0 (.a1 (.a2 (.a2 .done)))
 refine Ae<|Ab (AU (i:=1) (j:=2) I I)<|Aa<|Aj<|AE I<|Aq<|Aj<|Av<|Ae<|Ab (FV.idxN (cs:=(ab a3.fA ++ ab H0)) (k:=1) (m:=16) (len:=2) I I I I I (by omega) I)<|RG.nl zL v6 fun H07 d04 x6 q3=>AT (ab H0) x6 .hd (ai I) fun I07 M1 s3=>Aa<|Ae<|Ab (AI (m:=1) (k:=0) (len:=2) I I I I (by omega))<|Bd I ((M1.memA .t1) 0 _ I)<|Ab (AA I (M1.memA .hd))<|bk h fun p02 v00 h=>?_
 have V3:=Tt U3 (Tt Z0 (Tt b1 (Tt p3 (Tt q3 s3))))
 refine jE (bd 23) I (e2 I I) (fun p q=>aO_c n (M1.hL hL q) (Ah (Af c0 V3) q) H0 v00) I fun J07 u06 F7 ⟨j05,hu_,P8⟩=>?_
 subst hu_
 obtain ⟨P1,Q2⟩:=M1.agr F7
 refine Ac I<|Ab (Ai I I)<|Ab (Ai I I)<|Ag I<|Ag I<|Aa<|Ae<|Ab (AI (m:=1) (k:=0) (len:=2) I I I I (by omega))<|Bd I ((P1.memA .t1) 0 _ I)<|Ab (AA I (P1.memA .hd))<|bk h fun q02 x00 h=>jE (bd 43) I (e2 I I) (fun p q=>aj_c n (P1.hL hL q) (Ah (Af c0 (Tt V3 Q2)) q) H0 x00) I fun K07 v06 G7 ⟨k05,hu_,Q8⟩=>?_
 subst hu_
 obtain ⟨Q1,R2⟩:=P1.agr G7
 refine Ac I<|Ab (Ai I I)<|Ab (Ai I I)<|Ag I<|Ag I<|Aa<|Ae<|Ab (AI (m:=1) (k:=0) (len:=2) I I I I (by omega))<|Bd I ((Q1.memA .t1) 0 _ I)<|Ab (AA I (Q1.memA .hd))<|bk h fun s02 y00 h=>?_
 have W3:=Tt V3 (Tt Q2 R2)
 refine jE (bd 29) I (e2 I I) (fun p q=>aJ_c n (Q1.hL hL q) (Ah (Af c0 W3) q) H0 y00) I fun M07 x06 H7 ⟨p05,hu_,R8⟩=>?_
 subst hu_
 obtain ⟨R1,c1⟩:=Q1.agr H7
 refine Ac I<|Ab (Ai I I)<|Ab (Ai I I)<|Ag I<|Ag I<|Aa<|Ae<|Ab (AI (m:=1) (k:=0) (len:=2) I I I I (by omega))<|Bd I ((R1.memA .t1) 0 _ I)<|Ab (AA I (R1.memA .hd))<|bk h fun t02 z00 h=>jE (bd 44) I (e2 I I) (fun p q=>ak_c n (R1.hL hL q) (Ah (Af c0 (Tt W3 c1)) q) H0 z00) I fun P07 y06 I7 ⟨q05,hu_,U8⟩=>?_
 subst hu_
 obtain ⟨u0,g1⟩:=R1.agr I7
 refine Ac I<|Ab (Ai I I)<|Ab (Ai I I)<|Ag I<|Ag I<|Aa<|Ae<|Ac I<|Ac I<|bk h fun u02 A00 h=>Bj (.bool u02) (bd 39) I (e2 I I) (fun p q=>aa_c n (u0.hL0 hL q) (u0.kd (Af P8 (Tt R2 (Tt c1 g1))) q) (u0.kd (Af Q8 (Tt c1 g1)) q) A00) I<|Ab (Bz I)<|Ac I<|BP (s:=123) I h (fun s5 h=>?_) (fun s5 h=>?_)
 refine AM (Al I)<|AM (Al I)<|AM (BB (i:=p02.2) (j:=q02.2) I I)<|Bs I I<|Ac I<|RG.ifn (s:=128) I h (fun t5 h=>?_) (fun t5 h=>?_)
 refine AM (Al I)<|AM (Al I)<|bk h fun v02 B00 h=>BG (v:=.bool v02) (fst:=[]) (cap:=[]) (.yes I I) (bd 39) I (e2 I I) (fun p q=>aa_c n (u0.hL0 hL q) (u0.kd (Af R8 g1) q) (u0.kd U8 q) B00) I<|AM (Bz I)<|Bs I I<|Ac I<|BP (s:=134) I h (fun u5 h=>?_) (fun u5 h=>?_)
 refine AM (Al I)<|AM (Al I)<|AM (BB (i:=s02.2) (j:=t02.2) I I)<|Bs I I<|Aa<|BI I h (fun v5 h=>?_) (fun v5 h=>?_)
 refine Aq<|Aw<|Am<|Ab (BL (i:=1) (j:=1) (r:=2) I I (by decide))<|Ac I<|Aa<|Bp ?_
 obtain ⟨z6,u3⟩:=AB u0 .d1
 refine Ae<|Ab (AU (i:=2) (j:=2) I I)<|Aa<|Aj<|Bv I<|Ba I<|Aw<|Am<|Ab (BL (i:=0) (j:=1) (r:=1) I I (by decide))<|Ac I<|Aa<|Bp ?_
 obtain ⟨A6,v3⟩:=AB z6 .d1
 refine Ae<|Ab (AU (i:=1) (j:=4) I I)<|Aa<|Aj<|AE I<|Aq<|Aj<|Av<|Ae<|Ab (FV.idxN (cs:=[b0,j0,j0,M0,P0,G0,b0,b0]) (k:=1) (m:=2) (len:=4) I I I I I (by omega) I)<|RG.nl [vN,vN] A6 fun R07 j04 B6 x3=>?_
 have X3:=Tt W3 (Tt c1 (Tt g1 (Tt u3 (Tt v3 x3))))
 have Y3:=Tt U0 (Tt d3 (Tt s1 (Tt g3 (Tt K2 (Tt j3 (Tt k3 (Tt M2 (Tt P2 (Tt Z0 (Tt b1 (Tt p3 (Tt q3 (Tt s3 (Tt Q2 (Tt R2 (Tt c1 (Tt g1 (Tt u3 (Tt v3 x3)))))))))))))))))))
 refine AT [j0,M0] B6 .hd (o2 (Az (Af p0 X3)) (Az (Af E1 Y3))) fun U07 U1 u1=>Aa<|Ae<|Ab (AI (m:=1) (k:=0) (len:=2) I I I I (by omega))<|Bd I ((U1.memA .hd) 0 _ I)<|Ab (AI (m:=1) (k:=1) (len:=2) I I I I (by omega))<|Bd I ((U1.memA .hd) 1 _ I)<|bk h fun x02 C00 h=>jE (bd 24) I (e2 I I) (fun p q=>bp_c n (U1.hL hL q) (Ah (Af p0 (Tt X3 u1)) q) (Ah (Af E1 (Tt Y3 u1)) q) C00) I fun V07 z06 J7 ⟨s05,hu_,V8⟩=>?_
 subst hu_
 obtain ⟨V1,y3⟩:=U1.agr J7
 refine Ac I<|Ab (Ai I I)<|Ab (Ai I I)<|Ag I<|Ag I<|Aa<|Ae<|Ab (AI (m:=1) (k:=0) (len:=2) I I I I (by omega))<|Bd I ((V1.memA .hd) 0 _ I)<|Ab (AI (m:=1) (k:=1) (len:=2) I I I I (by omega))<|Bd I ((V1.memA .hd) 1 _ I)<|bk h fun y02 D00 h=>?_
 have V4:=Tt X3 (Tt u1 y3)
 refine jE (bd 41) I (e2 I I) (fun p q=>ar_c n (V1.hL hL q) (Ah (Af p0 V4) q) (Ah (Af E1 (Tt Y3 (Tt u1 y3))) q) D00) I fun W07 A06 K7 ⟨t05,hu_,W8⟩=>?_
 subst hu_
 obtain ⟨v0,z3⟩:=V1.agr K7
 refine Ac I<|Ab (Ai I I)<|Ab (Ai I I)<|Ag I<|Ag I<|Aa<|Aj<|Ae<|Ac I<|Ac I<|bk h fun A02 F00 h=>Bj (.bool A02) (bd 39) I (e2 I I) (fun p q=>aa_c n (v0.hL0 hL q) (v0.kd (Af V8 z3) q) (v0.kd W8 q) F00) I<|Ab (Bz I)<|Ac I<|BP (s:=78) I h (fun y5 h=>?_) (fun y5 h=>?_)
 refine AM (Al I)<|AM (Al I)<|AM (BB (i:=x02.2) (j:=y02.2) I I)<|Bs I I<|Aa<|BI I h (fun z5 h=>?_) (fun z5 h=>?_)
 refine Aq<|Aj<|du 6 fun W0 k1=>Rv 0 W0 I k1 (fun _=>Bh 2 I)<|Rx 1 16 W0 I k1 (AQ (cs:=(ab a3.fA)) I I (ae (v0.memA .t2) 2 16))<|Rx 2 24 W0 I k1 (AA I (v0.memA .t1))<|bk h fun I0 G00 h=>RD.cq 3 15 16 (.agg ((ab I0)).toArray) W0 I k1 (bd 42) I (e1 I) (fun p q=>ay_c n (v0.hL0 hL q) a4 (v0.k0 h4_1 q) (v0.k0 h4_4 q) G00) I<|Rv 4 W0 I k1 (fun _=>AS (vs:=[.agg ((ab a3.fA)).toArray,.agg ((ab I0)).toArray]) (u:=.agg ((ab a3.fA ++ ab I0)).toArray) (e2 I I) (fun p=>by kernel_rfl))<|Rv 5 W0 I k1 (fun _=>Al I)<|AN (dk W0)<|Av<|MX.loop1<|Ae<|Ab (AU (i:=0) (j:=2) I I)<|Aa<|Aj<|AE I<|Aq<|Aj<|Av<|Ae<|Ab (FV.idxN (cs:=(ab a3.fA ++ ab I0)) (k:=0) (m:=16) (len:=2) I I I I I (by omega) I)<|RG.nl zL v0 fun X07 p04 C6 u4=>AT (ab a3.fA) C6 .hd (ai I) fun Y07 W1 v4=>Aa<|Ae<|Ab (AI (m:=1) (k:=0) (len:=2) I I I I (by omega))<|Bd I ((W1.memA .t1) 0 _ I)<|Ab (AA I (W1.memA .hd))<|bk h fun B02 I00 h=>?_
 have Z3:=Tt V4 (Tt z3 (Tt u4 v4))
 refine jE (bd 23) I (e2 I I) (fun p q=>aO_c n (W1.hL hL q) (Ah (Af p0 Z3) q) a3.fA I00) I fun Z07 B06 M7 ⟨u05,hu_,X8⟩=>?_
 subst hu_
 obtain ⟨X1,A3⟩:=W1.agr M7
 refine Ac I<|Ab (Ai I I)<|Ab (Ai I I)<|Ag I<|Ag I<|Aa<|Ae<|Ab (AI (m:=1) (k:=0) (len:=2) I I I I (by omega))<|Bd I ((X1.memA .t1) 0 _ I)<|Ab (AA I (X1.memA .hd))<|bk h fun C02 J00 h=>jE (bd 43) I (e2 I I) (fun p q=>aj_c n (X1.hL hL q) (Ah (Af p0 (Tt Z3 A3)) q) a3.fA J00) I fun c08 C06 P7 ⟨v05,hu_,Y8⟩=>?_
 subst hu_
 obtain ⟨Y1,B3⟩:=X1.agr P7
 refine Ac I<|Ab (Ai I I)<|Ab (Ai I I)<|Ag I<|Ag I<|Aa<|Ae<|Ab (AI (m:=1) (k:=0) (len:=2) I I I I (by omega))<|Bd I ((Y1.memA .t1) 0 _ I)<|Ab (AA I (Y1.memA .hd))<|bk h fun D02 K00 h=>?_
 have b4:=Tt Z3 (Tt A3 B3)
 refine jE (bd 29) I (e2 I I) (fun p q=>aJ_c n (Y1.hL hL q) (Ah (Af p0 b4) q) a3.fA K00) I fun d08 E06 Q7 ⟨x05,hu_,Z8⟩=>?_
 subst hu_
 obtain ⟨Z1,v1⟩:=Y1.agr Q7
 refine Ac I<|Ab (Ai I I)<|Ab (Ai I I)<|Ag I<|Ag I<|Aa<|Ae<|Ab (AI (m:=1) (k:=0) (len:=2) I I I I (by omega))<|Bd I ((Z1.memA .t1) 0 _ I)<|Ab (AA I (Z1.memA .hd))<|bk h fun E02 M00 h=>jE (bd 44) I (e2 I I) (fun p q=>ak_c n (Z1.hL hL q) (Ah (Af p0 (Tt b4 v1)) q) a3.fA M00) I fun g08 F06 U7 ⟨y05,hu_,b9⟩=>?_
 subst hu_
 obtain ⟨x0,x1⟩:=Z1.agr U7
 refine Ac I<|Ab (Ai I I)<|Ab (Ai I I)<|Ag I<|Ag I<|Aa<|Ae<|Ac I<|Ac I<|bk h fun F02 P00 h=>Bj (.bool F02) (bd 39) I (e2 I I) (fun p q=>aa_c n (x0.hL0 hL q) (x0.kd (Af X8 (Tt B3 (Tt v1 x1))) q) (x0.kd (Af Y8 (Tt v1 x1)) q) P00) I<|Ab (Bz I)<|Ac I<|BP (s:=123) I h (fun A5 h=>?_) (fun A5 h=>?_)
 refine AM (Al I)<|AM (Al I)<|AM (BB (i:=B02.2) (j:=C02.2) I I)<|Bs I I<|Ac I<|RG.ifn (s:=128) I h (fun B5 h=>?_) (fun B5 h=>?_)
 refine AM (Al I)<|AM (Al I)<|bk h fun G02 Q00 h=>BG (v:=.bool G02) (fst:=[]) (cap:=[]) (.yes I I) (bd 39) I (e2 I I) (fun p q=>aa_c n (x0.hL0 hL q) (x0.kd (Af Z8 x1) q) (x0.kd b9 q) Q00) I<|AM (Bz I)<|Bs I I<|Ac I<|BP (s:=134) I h (fun C5 h=>?_) (fun C5 h=>?_)
 refine AM (Al I)<|AM (Al I)<|AM (BB (i:=D02.2) (j:=E02.2) I I)<|Bs I I<|Aa<|BI I h (fun D5 h=>?_) (fun D5 h=>?_)
 refine Aq<|Aw<|Am<|Ab (BL (i:=0) (j:=1) (r:=1) I I (by decide))<|Ac I<|Aa<|Bp ?_
 obtain ⟨E6,x4⟩:=AB x0 .d1
 refine Ae<|Ab (AU (i:=1) (j:=2) I I)<|Aa<|Aj<|AE I<|Aq<|Aj<|Av<|Ae<|Ab (FV.idxN (cs:=(ab a3.fA ++ ab I0)) (k:=1) (m:=16) (len:=2) I I I I I (by omega) I)<|RG.nl zL E6 fun j08 q04 F6 y4=>AT (ab I0) F6 .hd (ai I) fun k08 b2 z4=>Aa<|Ae<|Ab (AI (m:=1) (k:=0) (len:=2) I I I I (by omega))<|Bd I ((b2.memA .t1) 0 _ I)<|Ab (AA I (b2.memA .hd))<|bk h fun H02 R00 h=>?_
 have c4:=Tt b4 (Tt v1 (Tt x1 (Tt x4 (Tt y4 z4))))
 refine jE (bd 23) I (e2 I I) (fun p q=>aO_c n (b2.hL hL q) (Ah (Af p0 c4) q) I0 R00) I fun p08 G06 V7 ⟨z05,hu_,c9⟩=>?_
 subst hu_
 obtain ⟨c2,C3⟩:=b2.agr V7
 refine Ac I<|Ab (Ai I I)<|Ab (Ai I I)<|Ag I<|Ag I<|Aa<|Ae<|Ab (AI (m:=1) (k:=0) (len:=2) I I I I (by omega))<|Bd I ((c2.memA .t1) 0 _ I)<|Ab (AA I (c2.memA .hd))<|bk h fun I02 U00 h=>jE (bd 43) I (e2 I I) (fun p q=>aj_c n (c2.hL hL q) (Ah (Af p0 (Tt c4 C3)) q) I0 U00) I fun q08 H06 W7 ⟨A05,hu_,d9⟩=>?_
 subst hu_
 obtain ⟨d2,D3⟩:=c2.agr W7
 refine Ac I<|Ab (Ai I I)<|Ab (Ai I I)<|Ag I<|Ag I<|Aa<|Ae<|Ab (AI (m:=1) (k:=0) (len:=2) I I I I (by omega))<|Bd I ((d2.memA .t1) 0 _ I)<|Ab (AA I (d2.memA .hd))<|bk h fun J02 V00 h=>?_
 have W4:=Tt c4 (Tt C3 D3)
 refine jE (bd 29) I (e2 I I) (fun p q=>aJ_c n (d2.hL hL q) (Ah (Af p0 W4) q) I0 V00) I fun s08 I06 X7 ⟨B05,hu_,g9⟩=>?_
 subst hu_
 obtain ⟨g2,U2⟩:=d2.agr X7
 refine Ac I<|Ab (Ai I I)<|Ab (Ai I I)<|Ag I<|Ag I<|Aa<|Ae<|Ab (AI (m:=1) (k:=0) (len:=2) I I I I (by omega))<|Bd I ((g2.memA .t1) 0 _ I)<|Ab (AA I (g2.memA .hd))<|bk h fun K02 W00 h=>jE (bd 44) I (e2 I I) (fun p q=>ak_c n (g2.hL hL q) (Ah (Af p0 (Tt W4 U2)) q) I0 W00) I fun t08 J06 Y7 ⟨C05,hu_,j9⟩=>?_
 subst hu_
 obtain ⟨y0,V2⟩:=g2.agr Y7
 refine Ac I<|Ab (Ai I I)<|Ab (Ai I I)<|Ag I<|Ag I<|Aa<|Ae<|Ac I<|Ac I<|bk h fun M02 X00 h=>Bj (.bool M02) (bd 39) I (e2 I I) (fun p q=>aa_c n (y0.hL0 hL q) (y0.kd (Af c9 (Tt D3 (Tt U2 V2))) q) (y0.kd (Af d9 (Tt U2 V2)) q) X00) I<|Ab (Bz I)<|Ac I<|BP (s:=123) I h (fun E5 h=>?_) (fun E5 h=>?_)
 refine AM (Al I)<|AM (Al I)<|AM (BB (i:=H02.2) (j:=I02.2) I I)<|Bs I I<|Ac I<|RG.ifn (s:=128) I h (fun F5 h=>?_) (fun F5 h=>?_)
 refine AM (Al I)<|AM (Al I)<|bk h fun P02 Y00 h=>BG (v:=.bool P02) (fst:=[]) (cap:=[]) (.yes I I) (bd 39) I (e2 I I) (fun p q=>aa_c n (y0.hL0 hL q) (y0.kd (Af g9 V2) q) (y0.kd j9 q) Y00) I<|AM (Bz I)<|Bs I I<|Ac I<|BP (s:=134) I h (fun G5 h=>?_) (fun G5 h=>?_)
 refine AM (Al I)<|AM (Al I)<|AM (BB (i:=J02.2) (j:=K02.2) I I)<|Bs I I<|Aa<|BI I h (fun H5 h=>?_) (fun H5 h=>?_)
 refine Aq<|Aw<|Am<|Ab (BL (i:=1) (j:=1) (r:=2) I I (by decide))<|Ac I<|Aa<|Bp ?_
 obtain ⟨G6,c7⟩:=AB y0 .d1
 refine Ae<|Ab (AU (i:=2) (j:=2) I I)<|Aa<|Aj<|Bv I<|Ba I<|Aw<|Am<|Ab (BL (i:=1) (j:=1) (r:=2) I I (by decide))<|Ac I<|Aa<|Bp ?_
 obtain ⟨H6,d7⟩:=AB G6 .d1
 refine Ae<|Ab (AU (i:=2) (j:=4) I I)<|Aa<|Aj<|AE I<|Aq<|Aj<|Av<|Ae<|Ab (FV.idxN (cs:=[b0,j0,j0,M0,P0,G0,b0,b0]) (k:=2) (m:=2) (len:=4) I I I I I (by omega) I)<|RG.nl [vN,vN] H6 fun u08 s04 I6 g7=>?_
 have b3:=Tt d3 (Tt s1 (Tt g3 (Tt K2 (Tt j3 (Tt k3 (Tt M2 (Tt P2 (Tt Z0 (Tt b1 (Tt p3 (Tt q3 (Tt s3 (Tt Q2 (Tt R2 (Tt c1 (Tt g1 (Tt u3 (Tt v3 (Tt x3 (Tt u1 (Tt y3 (Tt z3 (Tt u4 (Tt v4 (Tt A3 (Tt B3 (Tt v1 (Tt x1 (Tt x4 (Tt y4 (Tt z4 (Tt C3 (Tt D3 (Tt U2 (Tt V2 (Tt c7 (Tt d7 g7)))))))))))))))))))))))))))))))))))))
 have X4:=Tt R0 (Tt A1 (Tt P3 (Tt U0 b3)))
 refine AT [P0,G0] I6 .hd (o2 (Az (Af q0 b3)) (Az (Af D1 X4))) fun v08 j2 E3=>Aa<|Ae<|Ab (AI (m:=1) (k:=0) (len:=2) I I I I (by omega))<|Bd I ((j2.memA .hd) 0 _ I)<|Ab (AI (m:=1) (k:=1) (len:=2) I I I I (by omega))<|Bd I ((j2.memA .hd) 1 _ I)<|bk h fun Q02 Z00 h=>jE (bd 24) I (e2 I I) (fun p q=>bp_c n (j2.hL hL q) (Ah (Af q0 (Tt b3 E3)) q) (Ah (Af D1 (Tt X4 E3)) q) Z00) I fun x08 K06 Z7 ⟨D05,hu_,k9⟩=>?_
 subst hu_
 obtain ⟨k2,j7⟩:=j2.agr Z7
 refine Ac I<|Ab (Ai I I)<|Ab (Ai I I)<|Ag I<|Ag I<|Aa<|Ae<|Ab (AI (m:=1) (k:=0) (len:=2) I I I I (by omega))<|Bd I ((k2.memA .hd) 0 _ I)<|Ab (AI (m:=1) (k:=1) (len:=2) I I I I (by omega))<|Bd I ((k2.memA .hd) 1 _ I)<|bk h fun R02 b01 h=>?_
 have d4:=Tt b3 (Tt E3 j7)
 have Y4:=Tt R0 (Tt A1 (Tt P3 (Tt U0 d4)))
 refine jE (bd 41) I (e2 I I) (fun p q=>ar_c n (k2.hL hL q) (Ah (Af q0 d4) q) (Ah (Af D1 Y4) q) b01) I fun z08 M06 b8 ⟨E05,hu_,p9⟩=>?_
 subst hu_
 obtain ⟨z0,F3⟩:=k2.agr b8
 refine Ac I<|Ab (Ai I I)<|Ab (Ai I I)<|Ag I<|Ag I<|Aa<|Aj<|Ae<|Ac I<|Ac I<|bk h fun U02 c01 h=>Bj (.bool U02) (bd 39) I (e2 I I) (fun p q=>aa_c n (z0.hL0 hL q) (z0.kd (Af k9 F3) q) (z0.kd p9 q) c01) I<|Ab (Bz I)<|Ac I<|BP (s:=78) I h (fun I5 h=>?_) (fun I5 h=>?_)
 refine AM (Al I)<|AM (Al I)<|AM (BB (i:=Q02.2) (j:=R02.2) I I)<|Bs I I<|Aa<|BI I h (fun J5 h=>?_) (fun J5 h=>?_)
 refine Aq<|Aj<|du 6 fun X0 p1=>Rv 0 X0 I p1 (fun _=>Bh 2 I)<|Rx 1 16 X0 I p1 (AQ (cs:=(ab a3.fA)) I I (ae (z0.memA .t2) 2 16))<|Rx 2 24 X0 I p1 (AA I (z0.memA .t1))<|bk h fun J0 d01 h=>RD.cq 3 15 16 (.agg ((ab J0)).toArray) X0 I p1 (bd 42) I (e1 I) (fun p q=>ay_c n (z0.hL0 hL q) a4 (z0.k0 h4_1 q) (z0.k0 h4_4 q) d01) I<|Rv 4 X0 I p1 (fun _=>AS (vs:=[.agg ((ab a3.fA)).toArray,.agg ((ab J0)).toArray]) (u:=.agg ((ab a3.fA ++ ab J0)).toArray) (e2 I I) (fun p=>by kernel_rfl))<|Rv 5 X0 I p1 (fun _=>Al I)<|AN (dk X0)<|Av<|MX.loop1<|Ae<|Ab (AU (i:=0) (j:=2) I I)<|Aa<|Aj<|AE I<|Aq<|Aj<|Av<|Ae<|Ab (FV.idxN (cs:=(ab a3.fA ++ ab J0)) (k:=0) (m:=16) (len:=2) I I I I I (by omega) I)<|RG.nl zL z0 fun A08 t04 K6 A4=>AT (ab a3.fA) K6 .hd (ai I) fun B08 p2 B4=>Aa<|Ae<|Ab (AI (m:=1) (k:=0) (len:=2) I I I I (by omega))<|Bd I ((p2.memA .t1) 0 _ I)<|Ab (AA I (p2.memA .hd))<|bk h fun V02 g01 h=>?_
 have g4:=Tt d4 (Tt F3 (Tt A4 B4))
 refine jE (bd 23) I (e2 I I) (fun p q=>aO_c n (p2.hL hL q) (Ah (Af q0 g4) q) a3.fA g01) I fun C08 P06 c8 ⟨F05,hu_,q9⟩=>?_
 subst hu_
 obtain ⟨q2,G3⟩:=p2.agr c8
 refine Ac I<|Ab (Ai I I)<|Ab (Ai I I)<|Ag I<|Ag I<|Aa<|Ae<|Ab (AI (m:=1) (k:=0) (len:=2) I I I I (by omega))<|Bd I ((q2.memA .t1) 0 _ I)<|Ab (AA I (q2.memA .hd))<|bk h fun W02 j01 h=>jE (bd 43) I (e2 I I) (fun p q=>aj_c n (q2.hL hL q) (Ah (Af q0 (Tt g4 G3)) q) a3.fA j01) I fun D08 Q06 d8 ⟨G05,hu_,s9⟩=>?_
 subst hu_
 obtain ⟨s2,H3⟩:=q2.agr d8
 refine Ac I<|Ab (Ai I I)<|Ab (Ai I I)<|Ag I<|Ag I<|Aa<|Ae<|Ab (AI (m:=1) (k:=0) (len:=2) I I I I (by omega))<|Bd I ((s2.memA .t1) 0 _ I)<|Ab (AA I (s2.memA .hd))<|bk h fun X02 k01 h=>?_
 have j4:=Tt g4 (Tt G3 H3)
 refine jE (bd 29) I (e2 I I) (fun p q=>aJ_c n (s2.hL hL q) (Ah (Af q0 j4) q) a3.fA k01) I fun E08 R06 g8 ⟨H05,hu_,t9⟩=>?_
 subst hu_
 obtain ⟨u2,y1⟩:=s2.agr g8
 refine Ac I<|Ab (Ai I I)<|Ab (Ai I I)<|Ag I<|Ag I<|Aa<|Ae<|Ab (AI (m:=1) (k:=0) (len:=2) I I I I (by omega))<|Bd I ((u2.memA .t1) 0 _ I)<|Ab (AA I (u2.memA .hd))<|bk h fun Y02 p01 h=>jE (bd 44) I (e2 I I) (fun p q=>ak_c n (u2.hL hL q) (Ah (Af q0 (Tt j4 y1)) q) a3.fA p01) I fun F08 U06 j8 ⟨I05,hu_,u9⟩=>?_
 subst hu_
 obtain ⟨A0,z1⟩:=u2.agr j8
 refine Ac I<|Ab (Ai I I)<|Ab (Ai I I)<|Ag I<|Ag I<|Aa<|Ae<|Ac I<|Ac I<|bk h fun Z02 q01 h=>Bj (.bool Z02) (bd 39) I (e2 I I) (fun p q=>aa_c n (A0.hL0 hL q) (A0.kd (Af q9 (Tt H3 (Tt y1 z1))) q) (A0.kd (Af s9 (Tt y1 z1)) q) q01) I<|Ab (Bz I)<|Ac I<|BP (s:=123) I h (fun K5 h=>?_) (fun K5 h=>?_)
 refine AM (Al I)<|AM (Al I)<|AM (BB (i:=V02.2) (j:=W02.2) I I)<|Bs I I<|Ac I<|RG.ifn (s:=128) I h (fun M5 h=>?_) (fun M5 h=>?_)
 refine AM (Al I)<|AM (Al I)<|bk h fun b03 s01 h=>BG (v:=.bool b03) (fst:=[]) (cap:=[]) (.yes I I) (bd 39) I (e2 I I) (fun p q=>aa_c n (A0.hL0 hL q) (A0.kd (Af t9 z1) q) (A0.kd u9 q) s01) I<|AM (Bz I)<|Bs I I<|Ac I<|BP (s:=134) I h (fun P5 h=>?_) (fun P5 h=>?_)
 refine AM (Al I)<|AM (Al I)<|AM (BB (i:=X02.2) (j:=Y02.2) I I)<|Bs I I<|Aa<|BI I h (fun Q5 h=>?_) (fun Q5 h=>?_)
 refine Aq<|Aw<|Am<|Ab (BL (i:=0) (j:=1) (r:=1) I I (by decide))<|Ac I<|Aa<|Bp ?_
 obtain ⟨M6,C4⟩:=AB A0 .d1
 refine Ae<|Ab (AU (i:=1) (j:=2) I I)<|Aa<|Aj<|AE I<|Aq<|Aj<|Av<|Ae<|Ab (FV.idxN (cs:=(ab a3.fA ++ ab J0)) (k:=1) (m:=16) (len:=2) I I I I I (by omega) I)<|RG.nl zL M6 fun H08 v04 P6 D4=>AT (ab J0) P6 .hd (ai I) fun I08 v2 E4=>Aa<|Ae<|Ab (AI (m:=1) (k:=0) (len:=2) I I I I (by omega))<|Bd I ((v2.memA .t1) 0 _ I)<|Ab (AA I (v2.memA .hd))<|bk h fun c03 t01 h=>?_
 have k4:=Tt j4 (Tt y1 (Tt z1 (Tt C4 (Tt D4 E4))))
 refine jE (bd 23) I (e2 I I) (fun p q=>aO_c n (v2.hL hL q) (Ah (Af q0 k4) q) J0 t01) I fun J08 V06 k8 ⟨J05,hu_,v9⟩=>?_
 subst hu_
 obtain ⟨x2,I3⟩:=v2.agr k8
 refine Ac I<|Ab (Ai I I)<|Ab (Ai I I)<|Ag I<|Ag I<|Aa<|Ae<|Ab (AI (m:=1) (k:=0) (len:=2) I I I I (by omega))<|Bd I ((x2.memA .t1) 0 _ I)<|Ab (AA I (x2.memA .hd))<|bk h fun d03 u01 h=>jE (bd 43) I (e2 I I) (fun p q=>aj_c n (x2.hL hL q) (Ah (Af q0 (Tt k4 I3)) q) J0 u01) I fun K08 W06 p8 ⟨K05,hu_,x9⟩=>?_
 subst hu_
 obtain ⟨y2,J3⟩:=x2.agr p8
 refine Ac I<|Ab (Ai I I)<|Ab (Ai I I)<|Ag I<|Ag I<|Aa<|Ae<|Ab (AI (m:=1) (k:=0) (len:=2) I I I I (by omega))<|Bd I ((y2.memA .t1) 0 _ I)<|Ab (AA I (y2.memA .hd))<|bk h fun g03 v01 h=>?_
 have Z4:=Tt k4 (Tt I3 J3)
 refine jE (bd 29) I (e2 I I) (fun p q=>aJ_c n (y2.hL hL q) (Ah (Af q0 Z4) q) J0 v01) I fun M08 X06 q8 ⟨M05,hu_,y9⟩=>?_
 subst hu_
 obtain ⟨z2,W2⟩:=y2.agr q8
 refine Ac I<|Ab (Ai I I)<|Ab (Ai I I)<|Ag I<|Ag I<|Aa<|Ae<|Ab (AI (m:=1) (k:=0) (len:=2) I I I I (by omega))<|Bd I ((z2.memA .t1) 0 _ I)<|Ab (AA I (z2.memA .hd))<|bk h fun j03 x01 h=>jE (bd 44) I (e2 I I) (fun p q=>ak_c n (z2.hL hL q) (Ah (Af q0 (Tt Z4 W2)) q) J0 x01) I fun P08 Y06 s8 ⟨P05,hu_,z9⟩=>?_
 subst hu_
 obtain ⟨C0,X2⟩:=z2.agr s8
 refine Ac I<|Ab (Ai I I)<|Ab (Ai I I)<|Ag I<|Ag I<|Aa<|Ae<|Ac I<|Ac I<|bk h fun k03 y01 h=>Bj (.bool k03) (bd 39) I (e2 I I) (fun p q=>aa_c n (C0.hL0 hL q) (C0.kd (Af v9 (Tt J3 (Tt W2 X2))) q) (C0.kd (Af x9 (Tt W2 X2)) q) y01) I<|Ab (Bz I)<|Ac I<|BP (s:=123) I h (fun R5 h=>?_) (fun R5 h=>?_)
 refine AM (Al I)<|AM (Al I)<|AM (BB (i:=c03.2) (j:=d03.2) I I)<|Bs I I<|Ac I<|RG.ifn (s:=128) I h (fun U5 h=>?_) (fun U5 h=>?_)
 refine AM (Al I)<|AM (Al I)<|bk h fun p03 z01 h=>BG (v:=.bool p03) (fst:=[]) (cap:=[]) (.yes I I) (bd 39) I (e2 I I) (fun p q=>aa_c n (C0.hL0 hL q) (C0.kd (Af y9 X2) q) (C0.kd z9 q) z01) I<|AM (Bz I)<|Bs I I<|Ac I<|BP (s:=134) I h (fun V5 h=>?_) (fun V5 h=>?_)
 refine AM (Al I)<|AM (Al I)<|AM (BB (i:=g03.2) (j:=j03.2) I I)<|Bs I I<|Aa<|BI I h (fun W5 h=>?_) (fun W5 h=>?_)
 refine Aq<|Aw<|Am<|Ab (BL (i:=1) (j:=1) (r:=2) I I (by decide))<|Ac I<|Aa<|Bp ?_
 obtain ⟨Q6,k7⟩:=AB C0 .d1
 refine Ae<|Ab (AU (i:=2) (j:=2) I I)<|Aa<|Aj<|Bv I<|Ba I<|Aw<|Am<|Ab (BL (i:=2) (j:=1) (r:=3) I I (by decide))<|Ac I<|Aa<|Bp ?_
 obtain ⟨R6,p7⟩:=AB Q6 .d1
 refine Ae<|Ab (AU (i:=3) (j:=4) I I)<|Aa<|Aj<|AE I<|Aq<|Aj<|Av<|Ae<|Ab (FV.idxN (cs:=[b0,j0,j0,M0,P0,G0,b0,b0]) (k:=3) (m:=2) (len:=4) I I I I I (by omega) I)<|RG.nl [vN,vN] R6 fun Q08 x04 U6 q7=>?_
 have p4:=Tt Y4 (Tt F3 (Tt A4 (Tt B4 (Tt G3 (Tt H3 (Tt y1 (Tt z1 (Tt C4 (Tt D4 (Tt E4 (Tt I3 (Tt J3 (Tt W2 (Tt X2 (Tt k7 (Tt p7 q7))))))))))))))))
 have M4:=Af c0 p4
 refine AT [b0,b0] U6 .hd (o2 (Az M4) (Az M4)) fun R08 A2 F4=>Aa<|Ae<|Ab (AI (m:=1) (k:=0) (len:=2) I I I I (by omega))<|Bd I ((A2.memA .hd) 0 _ I)<|Ab (AI (m:=1) (k:=1) (len:=2) I I I I (by omega))<|Bd I ((A2.memA .hd) 1 _ I)<|bk h fun q03 A01 h=>?_
 have Q4:=Af c0 (Tt p4 F4)
 refine jE (bd 24) I (e2 I I) (fun p q=>bp_c n (A2.hL hL q) (Ah Q4 q) (Ah Q4 q) A01) I fun U08 Z06 t8 ⟨Q05,hu_,A9⟩=>?_
 subst hu_
 obtain ⟨B2,s7⟩:=A2.agr t8
 refine Ac I<|Ab (Ai I I)<|Ab (Ai I I)<|Ag I<|Ag I<|Aa<|Ae<|Ab (AI (m:=1) (k:=0) (len:=2) I I I I (by omega))<|Bd I ((B2.memA .hd) 0 _ I)<|Ab (AI (m:=1) (k:=1) (len:=2) I I I I (by omega))<|Bd I ((B2.memA .hd) 1 _ I)<|bk h fun s03 B01 h=>?_
 have b5:=Tt p4 (Tt F4 s7)
 have R4:=Af c0 b5
 refine jE (bd 41) I (e2 I I) (fun p q=>ar_c n (B2.hL hL q) (Ah R4 q) (Ah R4 q) B01) I fun V08 b07 u8 ⟨R05,hu_,B9⟩=>?_
 subst hu_
 obtain ⟨D0,G4⟩:=B2.agr u8
 refine Ac I<|Ab (Ai I I)<|Ab (Ai I I)<|Ag I<|Ag I<|Aa<|Aj<|Ae<|Ac I<|Ac I<|bk h fun t03 C01 h=>Bj (.bool t03) (bd 39) I (e2 I I) (fun p q=>aa_c n (D0.hL0 hL q) (D0.kd (Af A9 G4) q) (D0.kd B9 q) C01) I<|Ab (Bz I)<|Ac I<|BP (s:=78) I h (fun X5 h=>?_) (fun X5 h=>?_)
 refine AM (Al I)<|AM (Al I)<|AM (BB (i:=q03.2) (j:=s03.2) I I)<|Bs I I<|Aa<|BI I h (fun Y5 h=>?_) (fun Y5 h=>?_)
 refine Aq<|Aj<|du 6 fun Y0 q1=>Rv 0 Y0 I q1 (fun _=>Bh 2 I)<|Rx 1 16 Y0 I q1 (AQ (cs:=(ab a3.fA)) I I (ae (D0.memA .t2) 2 16))<|Rx 2 24 Y0 I q1 (AA I (D0.memA .t1))<|bk h fun K0 D01 h=>RD.cq 3 15 16 (.agg ((ab K0)).toArray) Y0 I q1 (bd 42) I (e1 I) (fun p q=>ay_c n (D0.hL0 hL q) a4 (D0.k0 h4_1 q) (D0.k0 h4_4 q) D01) I<|Rv 4 Y0 I q1 (fun _=>AS (vs:=[.agg ((ab a3.fA)).toArray,.agg ((ab K0)).toArray]) (u:=.agg ((ab a3.fA ++ ab K0)).toArray) (e2 I I) (fun p=>by kernel_rfl))<|Rv 5 Y0 I q1 (fun _=>Al I)<|AN (dk Y0)<|Av<|MX.loop1<|Ae<|Ab (AU (i:=0) (j:=2) I I)<|Aa<|Aj<|AE I<|Aq<|Aj<|Av<|Ae<|Ab (FV.idxN (cs:=(ab a3.fA ++ ab K0)) (k:=0) (m:=16) (len:=2) I I I I I (by omega) I)<|RG.nl zL D0 fun W08 y04 V6 t7=>AT (ab a3.fA) V6 .hd (ai I) fun X08 C2 u7=>Aa<|Ae<|Ab (AI (m:=1) (k:=0) (len:=2) I I I I (by omega))<|Bd I ((C2.memA .t1) 0 _ I)<|Ab (AA I (C2.memA .hd))<|bk h fun u03 E01 h=>?_
 have q4:=Tt b5 (Tt G4 (Tt t7 u7))
 refine jE (bd 23) I (e2 I I) (fun p q=>aO_c n (C2.hL hL q) (Ah (Af c0 q4) q) a3.fA E01) I fun Y08 c07 v8 ⟨U05,hu_,C9⟩=>?_
 subst hu_
 obtain ⟨D2,H4⟩:=C2.agr v8
 refine Ac I<|Ab (Ai I I)<|Ab (Ai I I)<|Ag I<|Ag I<|Aa<|Ae<|Ab (AI (m:=1) (k:=0) (len:=2) I I I I (by omega))<|Bd I ((D2.memA .t1) 0 _ I)<|Ab (AA I (D2.memA .hd))<|bk h fun v03 F01 h=>jE (bd 43) I (e2 I I) (fun p q=>aj_c n (D2.hL hL q) (Ah (Af c0 (Tt q4 H4)) q) a3.fA F01) I fun Z08 d07 x8 ⟨V05,hu_,D9⟩=>?_
 subst hu_
 obtain ⟨E2,I4⟩:=D2.agr x8
 refine Ac I<|Ab (Ai I I)<|Ab (Ai I I)<|Ag I<|Ag I<|Aa<|Ae<|Ab (AI (m:=1) (k:=0) (len:=2) I I I I (by omega))<|Bd I ((E2.memA .t1) 0 _ I)<|Ab (AA I (E2.memA .hd))<|bk h fun x03 G01 h=>?_
 have s4:=Tt q4 (Tt H4 I4)
 refine jE (bd 29) I (e2 I I) (fun p q=>aJ_c n (E2.hL hL q) (Ah (Af c0 s4) q) a3.fA G01) I fun b09 g07 y8 ⟨W05,hu_,E9⟩=>?_
 subst hu_
 obtain ⟨F2,Y2⟩:=E2.agr y8
 refine Ac I<|Ab (Ai I I)<|Ab (Ai I I)<|Ag I<|Ag I<|Aa<|Ae<|Ab (AI (m:=1) (k:=0) (len:=2) I I I I (by omega))<|Bd I ((F2.memA .t1) 0 _ I)<|Ab (AA I (F2.memA .hd))<|bk h fun y03 H01 h=>jE (bd 44) I (e2 I I) (fun p q=>ak_c n (F2.hL hL q) (Ah (Af c0 (Tt s4 Y2)) q) a3.fA H01) I fun c09 j07 z8 ⟨X05,hu_,F9⟩=>?_
 subst hu_
 obtain ⟨E0,Z2⟩:=F2.agr z8
 refine Ac I<|Ab (Ai I I)<|Ab (Ai I I)<|Ag I<|Ag I<|Aa<|Ae<|Ac I<|Ac I<|bk h fun z03 I01 h=>Bj (.bool z03) (bd 39) I (e2 I I) (fun p q=>aa_c n (E0.hL0 hL q) (E0.kd (Af C9 (Tt I4 (Tt Y2 Z2))) q) (E0.kd (Af D9 (Tt Y2 Z2)) q) I01) I<|Ab (Bz I)<|Ac I<|BP (s:=123) I h (fun Z5 h=>?_) (fun Z5 h=>?_)
 refine AM (Al I)<|AM (Al I)<|AM (BB (i:=u03.2) (j:=v03.2) I I)<|Bs I I<|Ac I<|RG.ifn (s:=128) I h (fun b6 h=>?_) (fun b6 h=>?_)
 refine AM (Al I)<|AM (Al I)<|bk h fun A03 K01 h=>BG (v:=.bool A03) (fst:=[]) (cap:=[]) (.yes I I) (bd 39) I (e2 I I) (fun p q=>aa_c n (E0.hL0 hL q) (E0.kd (Af E9 Z2) q) (E0.kd F9 q) K01) I<|AM (Bz I)<|Bs I I<|Ac I<|BP (s:=134) I h (fun c6 h=>?_) (fun c6 h=>?_)
 refine AM (Al I)<|AM (Al I)<|AM (BB (i:=x03.2) (j:=y03.2) I I)<|Bs I I<|Aa<|BI I h (fun d6 h=>?_) (fun d6 h=>?_)
 refine Aq<|Aw<|Am<|Ab (BL (i:=0) (j:=1) (r:=1) I I (by decide))<|Ac I<|Aa<|Bp ?_
 obtain ⟨W6,v7⟩:=AB E0 .d1
 refine Ae<|Ab (AU (i:=1) (j:=2) I I)<|Aa<|Aj<|AE I<|Aq<|Aj<|Av<|Ae<|Ab (FV.idxN (cs:=(ab a3.fA ++ ab K0)) (k:=1) (m:=16) (len:=2) I I I I I (by omega) I)<|RG.nl zL W6 fun d09 z04 X6 x7=>AT (ab K0) X6 .hd (ai I) fun j09 G2 y7=>Aa<|Ae<|Ab (AI (m:=1) (k:=0) (len:=2) I I I I (by omega))<|Bd I ((G2.memA .t1) 0 _ I)<|Ab (AA I (G2.memA .hd))<|bk h fun B03 M01 h=>?_
 have t4:=Tt s4 (Tt Y2 (Tt Z2 (Tt v7 (Tt x7 y7))))
 refine jE (bd 23) I (e2 I I) (fun p q=>aO_c n (G2.hL hL q) (Ah (Af c0 t4) q) K0 M01) I fun k09 k07 A8 ⟨Y05,hu_,G9⟩=>?_
 subst hu_
 obtain ⟨H2,J4⟩:=G2.agr A8
 refine Ac I<|Ab (Ai I I)<|Ab (Ai I I)<|Ag I<|Ag I<|Aa<|Ae<|Ab (AI (m:=1) (k:=0) (len:=2) I I I I (by omega))<|Bd I ((H2.memA .t1) 0 _ I)<|Ab (AA I (H2.memA .hd))<|bk h fun C03 P01 h=>jE (bd 43) I (e2 I I) (fun p q=>aj_c n (H2.hL hL q) (Ah (Af c0 (Tt t4 J4)) q) K0 P01) I fun p09 p07 B8 ⟨Z05,hu_,H9⟩=>?_
 subst hu_
 obtain ⟨I2,K4⟩:=H2.agr B8
 refine Ac I<|Ab (Ai I I)<|Ab (Ai I I)<|Ag I<|Ag I<|Aa<|Ae<|Ab (AI (m:=1) (k:=0) (len:=2) I I I I (by omega))<|Bd I ((I2.memA .t1) 0 _ I)<|Ab (AA I (I2.memA .hd))<|bk h fun D03 Q01 h=>?_
 have c5:=Tt t4 (Tt J4 K4)
 refine jE (bd 29) I (e2 I I) (fun p q=>aJ_c n (I2.hL hL q) (Ah (Af c0 c5) q) K0 Q01) I fun q09 q07 D8 ⟨b06,hu_,I9⟩=>?_
 subst hu_
 obtain ⟨J2,K3⟩:=I2.agr D8
 refine Ac I<|Ab (Ai I I)<|Ab (Ai I I)<|Ag I<|Ag I<|Aa<|Ae<|Ab (AI (m:=1) (k:=0) (len:=2) I I I I (by omega))<|Bd I ((J2.memA .t1) 0 _ I)<|Ab (AA I (J2.memA .hd))<|bk h fun E03 R01 h=>jE (bd 44) I (e2 I I) (fun p q=>ak_c n (J2.hL hL q) (Ah (Af c0 (Tt c5 K3)) q) K0 R01) I fun s09 s07 E8 ⟨c06,hu_,J9⟩=>?_
 subst hu_
 obtain ⟨F0,M3⟩:=J2.agr E8
 refine Ac I<|Ab (Ai I I)<|Ab (Ai I I)<|Ag I<|Ag I<|Aa<|Ae<|Ac I<|Ac I<|bk h fun F03 U01 h=>Bj (.bool F03) (bd 39) I (e2 I I) (fun p q=>aa_c n (F0.hL0 hL q) (F0.kd (Af G9 (Tt K4 (Tt K3 M3))) q) (F0.kd (Af H9 (Tt K3 M3)) q) U01) I<|Ab (Bz I)<|Ac I<|BP (s:=123) I h (fun g6 h=>?_) (fun g6 h=>?_)
 refine AM (Al I)<|AM (Al I)<|AM (BB (i:=B03.2) (j:=C03.2) I I)<|Bs I I<|Ac I<|RG.ifn (s:=128) I h (fun j6 h=>?_) (fun j6 h=>?_)
 refine AM (Al I)<|AM (Al I)<|bk h fun G03 V01 h=>BG (v:=.bool G03) (fst:=[]) (cap:=[]) (.yes I I) (bd 39) I (e2 I I) (fun p q=>aa_c n (F0.hL0 hL q) (F0.kd (Af I9 M3) q) (F0.kd J9 q) V01) I<|AM (Bz I)<|Bs I I<|Ac I<|BP (s:=134) I h (fun k6 h=>?_) (fun k6 h=>?_)
 refine AM (Al I)<|AM (Al I)<|AM (BB (i:=D03.2) (j:=E03.2) I I)<|Bs I I<|Aa<|BI I h (fun p6 h=>?_) (fun p6 h=>?_)
 refine Aq<|Aw<|Am<|Ab (BL (i:=1) (j:=1) (r:=2) I I (by decide))<|Ac I<|Aa<|Bp ?_
 obtain ⟨Y6,W04⟩:=AB F0 .d1
 refine Ae<|Ab (AU (i:=2) (j:=2) I I)<|Aa<|Aj<|Bv I<|Ba I<|Aw<|Am<|Ab (BL (i:=3) (j:=1) (r:=4) I I (by decide))<|Ac I<|Aa<|Bp ?_
 obtain ⟨Z6,X04⟩:=AB Y6 .d1
 refine Ae<|Ab (AU (i:=4) (j:=4) I I)<|Aa<|Aj<|Bv I<|Ba I<|Ae<|Ag I<|Aa<|Ar I<|Bb hb0 func5 I I ?_
 cases h
 exact Z6.gv
 refine Ae<|Ag I<|Aa<|Ar I<|Bb hb0 func5 I I ?_
 cases h
 exact F0.gv
 refine Ap<|Ap<|Ap<|Br I I<|Aa<|AE I<|Ae<|Ag I<|Aa<|Ar I<|Bb hb0 func5 I I ?_
 cases h
 exact F0.gv
 refine Ap<|Ap<|Ap<|Ap<|Br I I<|Ac I<|Ap<|Ap<|Ap<|Br I I<|Aa<|AE I<|Ae<|Ag I<|Aa<|Ar I<|Bb hb0 func5 I I ?_
 cases h
 exact F0.gv
 refine Ap<|Ap<|Ap<|Br I I<|Ac I<|Ap<|Ap<|Ap<|Ap<|Br I I<|Ac I<|Ap<|Ap<|Ap<|Br I I<|Aa<|AE I<|Ae<|Ag I<|Aa<|Ar I<|Bb hb0 func5 I I ?_
 cases h
 exact F0.gv
 refine Ae<|Ag I<|Aa<|Ar I<|Bb hb0 func5 I I ?_
 cases h
 exact E0.gv
 refine Ap<|Ap<|Ap<|Br I I<|Aa<|AE I<|Ae<|Ag I<|Aa<|Ar I<|Bb hb0 func5 I I ?_
 cases h
 exact E0.gv
 refine Ap<|Ap<|Ap<|Ap<|Br I I<|Ac I<|Ap<|Ap<|Ap<|Br I I<|Aa<|AE I<|Ae<|Ag I<|Aa<|Ar I<|Bb hb0 func5 I I ?_
 cases h
 exact E0.gv
 refine Ap<|Ap<|Ap<|Br I I<|Ac I<|Ap<|Ap<|Ap<|Ap<|Br I I<|Ac I<|Ap<|Ap<|Ap<|Br I I<|Aa<|AE I<|Ae<|Ag I<|Aa<|Ar I<|Bb hb0 func5 I I ?_
 cases h
 exact E0.gv
 refine Ae<|Ag I<|Aa<|Ar I<|Bb hb0 func5 I I ?_
 cases h
 exact D0.gv
 refine Ap<|Ap<|Ap<|Br I I<|Aa<|AE I<|Ae<|Ag I<|Aa<|Ar I<|Bb hb0 func5 I I ?_
 cases h
 exact D0.gv
 refine Ae<|Ag I<|Aa<|Ar I<|Bb hb0 func5 I I ?_
 cases h
 exact C0.gv
 refine Ap<|Ap<|Ap<|Br I I<|Aa<|AE I<|Ae<|Ag I<|Aa<|Ar I<|Bb hb0 func5 I I ?_
 cases h
 exact C0.gv
 refine Ap<|Ap<|Ap<|Ap<|Br I I<|Ac I<|Ap<|Ap<|Ap<|Br I I<|Aa<|AE I<|Ae<|Ag I<|Aa<|Ar I<|Bb hb0 func5 I I ?_
 cases h
 exact C0.gv
 refine Ap<|Ap<|Ap<|Br I I<|Ac I<|Ap<|Ap<|Ap<|Ap<|Br I I<|Ac I<|Ap<|Ap<|Ap<|Br I I<|Aa<|AE I<|Ae<|Ag I<|Aa<|Ar I<|Bb hb0 func5 I I ?_
 cases h
 exact C0.gv
 refine Ae<|Ag I<|Aa<|Ar I<|Bb hb0 func5 I I ?_
 cases h
 exact A0.gv
 refine Ap<|Ap<|Ap<|Br I I<|Aa<|AE I<|Ae<|Ag I<|Aa<|Ar I<|Bb hb0 func5 I I ?_
 cases h
 exact A0.gv
 refine Ap<|Ap<|Ap<|Ap<|Br I I<|Ac I<|Ap<|Ap<|Ap<|Br I I<|Aa<|AE I<|Ae<|Ag I<|Aa<|Ar I<|Bb hb0 func5 I I ?_
 cases h
 exact A0.gv
 refine Ap<|Ap<|Ap<|Br I I<|Ac I<|Ap<|Ap<|Ap<|Ap<|Br I I<|Ac I<|Ap<|Ap<|Ap<|Br I I<|Aa<|AE I<|Ae<|Ag I<|Aa<|Ar I<|Bb hb0 func5 I I ?_
 cases h
 exact A0.gv
 refine Ae<|Ag I<|Aa<|Ar I<|Bb hb0 func5 I I ?_
 cases h
 exact z0.gv
 refine Ap<|Ap<|Ap<|Br I I<|Aa<|AE I<|Ae<|Ag I<|Aa<|Ar I<|Bb hb0 func5 I I ?_
 cases h
 exact z0.gv
 refine Ae<|Ag I<|Aa<|Ar I<|Bb hb0 func5 I I ?_
 cases h
 exact y0.gv
 refine Ap<|Ap<|Ap<|Br I I<|Aa<|AE I<|Ae<|Ag I<|Aa<|Ar I<|Bb hb0 func5 I I ?_
 cases h
 exact y0.gv
 refine Ap<|Ap<|Ap<|Ap<|Br I I<|Ac I<|Ap<|Ap<|Ap<|Br I I<|Aa<|AE I<|Ae<|Ag I<|Aa<|Ar I<|Bb hb0 func5 I I ?_
 cases h
 exact y0.gv
 refine Ap<|Ap<|Ap<|Br I I<|Ac I<|Ap<|Ap<|Ap<|Ap<|Br I I<|Ac I<|Ap<|Ap<|Ap<|Br I I<|Aa<|AE I<|Ae<|Ag I<|Aa<|Ar I<|Bb hb0 func5 I I ?_
 cases h
 exact y0.gv
 refine Ae<|Ag I<|Aa<|Ar I<|Bb hb0 func5 I I ?_
 cases h
 exact x0.gv
 refine Ap<|Ap<|Ap<|Br I I<|Aa<|AE I<|Ae<|Ag I<|Aa<|Ar I<|Bb hb0 func5 I I ?_
 cases h
 exact x0.gv
 refine Ap<|Ap<|Ap<|Ap<|Br I I<|Ac I<|Ap<|Ap<|Ap<|Br I I<|Aa<|AE I<|Ae<|Ag I<|Aa<|Ar I<|Bb hb0 func5 I I ?_
 cases h
 exact x0.gv
 refine Ap<|Ap<|Ap<|Br I I<|Ac I<|Ap<|Ap<|Ap<|Ap<|Br I I<|Ac I<|Ap<|Ap<|Ap<|Br I I<|Aa<|AE I<|Ae<|Ag I<|Aa<|Ar I<|Bb hb0 func5 I I ?_
 cases h
 exact x0.gv
 refine Ae<|Ag I<|Aa<|Ar I<|Bb hb0 func5 I I ?_
 cases h
 exact v0.gv
 refine Ap<|Ap<|Ap<|Br I I<|Aa<|AE I<|Ae<|Ag I<|Aa<|Ar I<|Bb hb0 func5 I I ?_
 cases h
 exact v0.gv
 refine Ae<|Ag I<|Aa<|Ar I<|Bb hb0 func5 I I ?_
 cases h
 exact u0.gv
 refine Ap<|Ap<|Ap<|Br I I<|Aa<|AE I<|Ae<|Ag I<|Aa<|Ar I<|Bb hb0 func5 I I ?_
 cases h
 exact u0.gv
 refine Ap<|Ap<|Ap<|Ap<|Br I I<|Ac I<|Ap<|Ap<|Ap<|Br I I<|Aa<|AE I<|Ae<|Ag I<|Aa<|Ar I<|Bb hb0 func5 I I ?_
 cases h
 exact u0.gv
 refine Ap<|Ap<|Ap<|Br I I<|Ac I<|Ap<|Ap<|Ap<|Ap<|Br I I<|Ac I<|Ap<|Ap<|Ap<|Br I I<|Aa<|AE I<|Ae<|Ag I<|Aa<|Ar I<|Bb hb0 func5 I I ?_
 cases h
 exact u0.gv
 refine Ae<|Ag I<|Aa<|Ar I<|Bb hb0 func5 I I ?_
 cases h
 exact t0.gv
 refine Ap<|Ap<|Ap<|Br I I<|Aa<|AE I<|Ae<|Ag I<|Aa<|Ar I<|Bb hb0 func5 I I ?_
 cases h
 exact t0.gv
 refine Ap<|Ap<|Ap<|Ap<|Br I I<|Ac I<|Ap<|Ap<|Ap<|Br I I<|Aa<|AE I<|Ae<|Ag I<|Aa<|Ar I<|Bb hb0 func5 I I ?_
 cases h
 exact t0.gv
 refine Ap<|Ap<|Ap<|Br I I<|Ac I<|Ap<|Ap<|Ap<|Ap<|Br I I<|Ac I<|Ap<|Ap<|Ap<|Br I I<|Aa<|AE I<|Ae<|Ag I<|Aa<|Ar I<|Bb hb0 func5 I I ?_
 cases h
 exact t0.gv
 refine Ae<|Ag I<|Aa<|Ar I<|Bb hb0 func5 I I ?_
 cases h
 exact s0.gv
 refine Ap<|Ap<|Ap<|Br I I<|Aa<|AE I<|Ae<|Ag I<|Aa<|Ar I<|Bb hb0 func5 I I ?_
 cases h
 exact s0.gv
 refine Ae<|Ag I<|Aa<|Ar I<|Bb hb0 func5 I I ?_
 cases h
 exact Q0.gv
end Go.Proofs.YtkommhmbkbhmlaaGreat
