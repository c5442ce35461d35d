import Derived.Test.YtkimkkgicmipbaaGreatDoorVT9
namespace Go.Proofs.YtkimkkgicmipbaaGreatDoor
open Go Go.RowKit Tryz
set_option maxRecDepth 4000
set_option maxHeartbeats 4000000

theorem ex_A137 {a b:Ua×Ua} (h0:a.1=b.1) (h1:a.2=b.2):a=b:=Prod.ext h0 (h1)
instance:Enc (UInt64×UInt64):=⟨fun a=>.agg #[vU a.1,vU a.2]⟩
theorem jt:KeyAt Tryz.prog 137 (Ua×Ua):=⟨fun q a w=>by kernel_rfl,⟨_,underlying137,fun a b=>rfl⟩,fun a b w9=>
  eqOp (ks:=[.int .u64,.int .u64]) (xs:=[vU a.1,vU a.2]) (ys:=[vU b.1,vU b.2]) (by kernel_rfl) (by kernel_rfl) I I ⟨fun h=>by
    simp only [bH,veq,Bool.and_eq_true,beq_iff_eq,and_true] at h
    obtain ⟨h0,h1⟩:=h
    exact ex_A137 (bE h0) (bE h1),fun h=>by subst h; simp [bH,veq]⟩ w9,fun a=>by simp [Instr.sameBits,Enc.enc]⟩
def bv_l1 (rec:(Lb Bool)->(Lb ((Ua×Ua)×Int))->Ua->Int->Oa ((Lb ((Ua×Ua)×Int))×Int)) (_n:Nat) (ft:Lb Bool) (a0:Ua) (a1:Int) (k0:Ua×Int×(Lb ((Ua×Ua)×Int))->Oa ((Lb ((Ua×Ua)×Int))×Int)):Ua×Int×(Lb ((Ua×Ua)×Int))->Oa ((Lb ((Ua×Ua)×Int))×Int)
  | (b0,c0,d0)=>(ft[(b0|||(a0&&&(-a0))).toNat]?).bind fun q0=>(if q0=true then (chk (a1-1)).bind fun p0=>(rec ft d0 ((a0&&&~~~b0)&&&~~~(a0&&&(-a0))) p0).bind fun j0=>(chk (c0+j0.2)).bind fun g0=>(if b0=(0:Ua) then some (aH j0.1 (a0,ac a1) g0,g0) else k0 ((b0-(1:Ua))&&&(a0&&&~~~(a0&&&(-a0))),g0,j0.1)) else (if b0=(0:Ua) then some (aH d0 (a0,ac a1) c0,c0) else k0 ((b0-(1:Ua))&&&(a0&&&~~~(a0&&&(-a0))),c0,d0)))
def bz (n:Nat) (rec:(Lb Bool)->(Lb ((Ua×Ua)×Int))->Ua->Int->Oa ((Lb ((Ua×Ua)×Int))×Int)) (ft:Lb Bool) (D0:Lb ((Ua×Ua)×Int)) (a0:Ua) (a1:Int):Oa ((Lb ((Ua×Ua)×Int))×Int):=
  (if a0=(0:Ua) then (if a1=0 then some (D0,(1:Int)) else some (D0,(0:Int))) else (if a1=0 then some (D0,(0:Int)) else (if (aP D0 (a0,ac a1)).isSome=true then some (D0,ap D0 (a0,ac a1) (0:Int)) else ah (bv_l1 rec n ft a0 a1) n (a0&&&~~~(a0&&&(-a0)),0,D0))))
theorem fY (n:Nat) (rec:(Lb Bool)->(Lb ((Ua×Ua)×Int))->Ua->Int->Oa ((Lb ((Ua×Ua)×Int))×Int)) (hrec:∀ (L:Lb Nat) {w0 w:World} {T9:Lb Ob} (_:∀ b∈L,b<w0.heap.size) {pf pq pd pc pm:Nat} {vf:Vc} {nn:Int} (ft:Lb Bool) (D0:Lb ((Ua×Ua)×Int)) (_hS0:St w0 w (.cells pf [vI nn,vf,.func (.func 54) #[] #[vP pd,vP pq]] 100::.cells pq [vP pf] 91::.cells pd [.func (.func 52) #[] #[vP pc,vP pq,vP pd]] 136::.cells pc [.map (some pm)] 135::.obj pm (ab (D0:Lb ((Ua×Ua)×Int)))::T9)) (_hf:Rep.R w (bl (.cells pf [vI nn,vf,.func (.func 54) #[] #[vP pd,vP pq]] 100::.cells pq [vP pf] 91::.cells pd [.func (.func 52) #[] #[vP pc,vP pq,vP pd]] 136::.cells pc [.map (some pm)] 135::.obj pm (ab (D0:Lb ((Ua×Ua)×Int)))::T9)++L) [vf] ft) (a0:Ua) {a1:Int} {r:(Lb ((Ua×Ua)×Int))×Int} (_h:rec ft D0 a0 a1=some r),Calls Tryz.prog 52 #[vU a0,vI a1,vP pc,vP pq,vP pd] w (eP w0 w (.cells pf [vI nn,vf,.func (.func 54) #[] #[vP pd,vP pq]] 100::.cells pq [vP pf] 91::.cells pd [.func (.func 52) #[] #[vP pc,vP pq,vP pd]] 136::.cells pc [.map (some pm)] 135::.obj pm (ab (D0:Lb ((Ua×Ua)×Int)))::T9) (.cells pf [vI nn,vf,.func (.func 54) #[] #[vP pd,vP pq]] 100::.cells pq [vP pf] 91::.cells pd [.func (.func 52) #[] #[vP pc,vP pq,vP pd]] 136::.cells pc [.map (some pm)] 135::.obj pm (ab (r.1:Lb ((Ua×Ua)×Int)))::T9) (fun _ u=>u=vI r.2))) (L:Lb Nat) {w0 w:World} {T9:Lb Ob} (hL:∀ b∈L,b<w0.heap.size) {pf pq pd pc pm:Nat} {vf:Vc} {nn:Int} (ft:Lb Bool) (D0:Lb ((Ua×Ua)×Int)) (hS0:St w0 w (.cells pf [vI nn,vf,.func (.func 54) #[] #[vP pd,vP pq]] 100::.cells pq [vP pf] 91::.cells pd [.func (.func 52) #[] #[vP pc,vP pq,vP pd]] 136::.cells pc [.map (some pm)] 135::.obj pm (ab (D0:Lb ((Ua×Ua)×Int)))::T9)) (hf:Rep.R w (bl (.cells pf [vI nn,vf,.func (.func 54) #[] #[vP pd,vP pq]] 100::.cells pq [vP pf] 91::.cells pd [.func (.func 52) #[] #[vP pc,vP pq,vP pd]] 136::.cells pc [.map (some pm)] 135::.obj pm (ab (D0:Lb ((Ua×Ua)×Int)))::T9)++L) [vf] ft) (a0:Ua) {a1:Int} {r:(Lb ((Ua×Ua)×Int))×Int} (h:bz n rec ft D0 a0 a1=some r) :
 Cl 52 #[vU a0,vI a1,vP pc,vP pq,vP pd] w (eP w0 w (.cells pf [vI nn,vf,.func (.func 54) #[] #[vP pd,vP pq]] 100::.cells pq [vP pf] 91::.cells pd [.func (.func 52) #[] #[vP pc,vP pq,vP pd]] 136::.cells pc [.map (some pm)] 135::.obj pm (ab (D0:Lb ((Ua×Ua)×Int)))::T9) (.cells pf [vI nn,vf,.func (.func 54) #[] #[vP pd,vP pq]] 100::.cells pq [vP pf] 91::.cells pd [.func (.func 52) #[] #[vP pc,vP pq,vP pd]] 136::.cells pc [.map (some pm)] 135::.obj pm (ab (r.1:Lb ((Ua×Ua)×Int)))::T9) (fun _ u=>u=vI r.2)):=by
 unfold bz at h
 refine MX.startL func52 I I I fun _ cs0 hb0=>Ae<|RG.bx hS0 I I fun q5 t0 D2 d1=>RG.bx D2 I I fun b1 u0 M0 g1=>Af I<|Aa<|Ai<|Ae<|AG I ((M0.memA .t1) 0 _ I)<|Ac (FV.eqlU (a:=a0) (b:=(0:Ua)) I I)<|Ab I<|BD (s:=16) I h (fun z1 h=>?_) (fun z1 h=>?_)
 refine Aj<|Aj<|Bm I I<|Aa<|Ba I<|Ai<|Ae<|AG I ((M0.memA .t1) 0 _ I)<|Ac (FV.eqlU (a:=a0) (b:=(0:Ua)) I I)<|Ab I<|RG.known (s:=22) I (decide_eq_true z1)<|Au (Ay I ((M0.memA .hd) 0 _ I))<|Au (BT (i:=a1) (j:=0) I I)<|Bm I I<|Aa<|AO I h (fun v2 h=>?_) (fun v2 h=>?_)
 refine Ae<|Af I<|Aa<|Ap I<|AV hb0 func52 I I ?_
 obtain ⟨E2,C3⟩:=qC M0 (qJ (qJ (qJ (qJ (qJ (.drop .hd (.drop .hd .rest)))))))
 cases h
 exact ⟨E2,(Tt d1 (Tt g1 C3)),fun w9 hw9=>rfl⟩
 refine Am<|Ae<|Af I<|Aa<|Ap I<|AV hb0 func52 I I ?_
 obtain ⟨G2,D3⟩:=qC M0 (qJ (qJ (qJ (qJ (qJ (.drop .hd (.drop .hd .rest)))))))
 cases h
 exact ⟨G2,(Tt d1 (Tt g1 D3)),fun w9 hw9=>rfl⟩
 refine Au (Ay I ((M0.memA .hd) 0 _ I))<|Au (BT (i:=a1) (j:=0) I I)<|Bo I I<|Aa<|AO I h (fun x2 h=>?_) (fun x2 h=>?_)
 refine Ai<|Ae<|AG I ((M0.memA .t1) 0 _ I)<|Ac (FV.eqlU (a:=a0) (b:=(0:Ua)) I I)<|Ab I<|RG.known (s:=22) I (decide_eq_false z1)<|Aj<|Aj<|Bo I I<|Aa<|Bn I<|Am<|Ae<|Af I<|Aa<|Ap I<|AV hb0 func52 I I ?_
 obtain ⟨H2,E3⟩:=qC M0 (qJ (qJ (qJ (qJ (qJ (.drop .hd (.drop .hd .rest)))))))
 cases h
 exact ⟨H2,(Tt d1 (Tt g1 E3)),fun w9 hw9=>rfl⟩
 refine Am<|Ae<|AG I ((M0.memA .t1) 0 _ I)<|AG I ((M0.memA .hd) 0 _ I)<|Ac (FV.convU (i:=a1) underlying3 underlying44 I)<|Ac (Bj (vs:=[vU a0,vW ((ac a1).toNat:Int)]) (u:=.agg #[vU a0,vW ((ac a1).toNat:Int)]) (e2 I I) (fun w9=>by kernel_rfl))<|RG.nl [vW 0,vW 0] M0 fun v5 v0 I2 W1=>Bl [vU a0,vW ((ac a1).toNat:Int)] I2 .hd (aC I) fun p2 F0 X1=>Aa<|Ai<|Ae<|AG I ((F0.memA .t6) 0 _ I)<|Ac (AP I (F0.memA .hd))<|Ac (FV.lookup2K (kv:=(a0,ac a1)) (z:=(0:Int)) jt F0 .t7 underlying135 I I I)<|Ab I<|Ac (Al I I)<|Ac (Al I I)<|Af I<|Af I<|Aa<|Ae<|Ab I<|Aa<|MX.ifb I h (fun y2 h=>?_) (fun y2 h=>?_)
 refine Ae<|Ab I<|Af I<|Aa<|Ap I<|AV hb0 func52 I I ?_
 obtain ⟨J2,F3⟩:=qC F0 (qK (qK (qK (qK (qK (.drop .hd (.drop .hd (.drop .hd .rest))))))))
 cases h
 exact ⟨J2,(Tt d1 (Tt g1 (Tt W1 (Tt X1 F3)))),fun w9 hw9=>rfl⟩
 refine Am<|Ai<|du 6 fun b0 j0=>RD.mo (α:=Nat×Nat) (fun ⟨E0,B0⟩=>[(2,vP pc),(3,vP pq),(4,vP pd),(5,vP t0),(6,vP u0),(8,vP v0),(41,vW ((a0&&&(-a0)).toNat:Int)),(11,vP B0),(12,vP E0)]) (fun ⟨E0,B0⟩=>(.cells E0 [vW 0] 44::.cells B0 [vI 0] 3::.cells v0 [vU a0,vW ((ac a1).toNat:Int)] 137::.cells u0 [vI a1] 3::.cells t0 [vU a0] 44::.cells pf [vI nn,vf,.func (.func 54) #[] #[vP pd,vP pq]] 100::.cells pq [vP pf] 91::.cells pd [.func (.func 52) #[] #[vP pc,vP pq,vP pd]] 136::.cells pc [.map (some pm)] 135::.obj pm (ab (D0:Lb ((Ua×Ua)×Int)))::T9)) F0 1 127 ?_ ?_
 rintro ⟨E0,B0⟩ B5 F2 z3
 try dsimp only
 refine BC 7 255 b0 I I .plain (Az (news:=[vW ((a0&&&(-a0)).toNat:Int)]) F2 .hd I I I I I I (o1 I)) fun U4 c1 A3=>AQ (dk b0)<|Ai<|Ae<|AG I ((c1.memA .t4) 0 _ I)<|AG I ((c1.memA .hd) 0 _ I)<|Ac (FV.andNotU (a:=a0) (b:=a0&&&(-a0)) I I)<|jE (bd 53) I (e1 I) (fun w9 hw9=>Calls.gives (cA_c n (c1.hL hL hw9) (a0&&&~~~(a0&&&(-a0)))) fun (w8:World) (u8:Vc) ⟨b0_,hu_,s_⟩=>(⟨b0_,hu_,s_.from hw9⟩:∃ C0:Nat,u8=Value.func (.func 87) #[] #[vP C0]/\St U4 w8 [.cells C0 [vW ((a0&&&~~~(a0&&&(-a0))).toNat:Int)] 44])) I fun s5 p5 d5 ⟨C0,M4,k2⟩=>?_
 subst M4
 refine Aa<|Aq<|MX.rangeP (lb:=[vP C0]) I (gM c1 k2) I (bd 87) func87 I I I fun u5 Y0 R0 Z0 b5 H1 B3 Q4 d2 g5=>Ae<|AG I ((H1.memA .t2) 0 _ I)<|Af I<|Aa<|Aq<|MX.lo (α:=Ua×Int×(Lb ((Ua×Ua)×Int))) (fun ⟨G0,A0,H0⟩=>[(0,.func (.yield Y0) #[] #[]),(1,vP C0),(3,vU G0)]) (fun ⟨G0,A0,H0⟩=>(.obj Y0 (lpO Z0 .ready none)::.obj R0 (.deferred (some []))::.cells C0 [vW ((a0&&&~~~(a0&&&(-a0))).toNat:Int)] 44::.cells E0 [vW ((a0&&&(-a0)).toNat:Int)] 44::.cells B0 [vI A0] 3::.cells v0 [vU a0,vW ((ac a1).toNat:Int)] 137::.cells u0 [vI a1] 3::.cells t0 [vU a0] 44::.cells pf [vI nn,vf,.func (.func 54) #[] #[vP pd,vP pq]] 100::.cells pq [vP pf] 91::.cells pd [.func (.func 52) #[] #[vP pc,vP pq,vP pd]] 136::.cells pc [.map (some pm)] 135::.obj pm (ab (H0:Lb ((Ua×Ua)×Int)))::T9)) (fun ⟨G0,A0,H0⟩=>(G0,A0,H0)) (a0&&&~~~(a0&&&(-a0)),0,D0) h H1 ?_
 rintro Y4 ⟨G0,A0,H0⟩ C5 F1 I1 C1 h
 unfold bv_l1 at h
 try dsimp only at h
 refine Ai<|Aq<|Ae<|Ab I<|Ab I<|RG.yieldP (fd:=52) (vs:=[vU G0]) .plain I (e1 I) I1 .hd Q4 I I I fun c5 g2 j5=>Ak<|Af I<|Aa<|MX.begin I1 .hd fun v1 P0 D1=>Aq<|Ai<|du 9 fun V0 W0=>Rx 0 398 V0 I W0 (Ay I ((P0.memA .t9) 0 _ I))<|Rv 1 V0 I W0 (fun _=>Bw I)<|Rv 2 V0 I W0 (fun _=>Bv 1 I)<|Rx 3 384 V0 I W0 (Ay I ((P0.memA .t8) 1 _ I))<|Rv 4 V0 I W0 (fun _=>Ah I)<|Rx 5 448 V0 I W0 (Ay I ((P0.memA .t3) 0 _ I))<|Rv 6 V0 I W0 (fun _=>FV.orU (a:=G0) (b:=a0&&&(-a0)) I I)<|bk h fun W4 P4 h=>?_
 have k1:=Tt d1 (Tt g1 (Tt W1 (Tt X1 (Tt z3 (Tt A3 (Tt (lG c1 k2) (Tt B3 (Tt C1 D1))))))))
 obtain ⟨X4,Z4,D4,F4,C2,I4,G4⟩:=Bq (AB hf k1) P4
 have E4:C2=[.bool W4]:=I4; subst E4
 refine Rv 7 V0 I W0 (fun _=>FV.idxAddr (m:=1) (i:=(G0|||(a0&&&(-a0))).toNat) I I D4 I I F4)<|Rx 8 0 V0 I W0 (Ay I (G4 0 _ I))<|AQ (dk V0)<|MX.ifb I h (fun z2 h=>?_) (fun z2 h=>?_)
 refine du 9 fun I0 X0=>Rx 1 3584 I0 I X0 (Ay I ((P0.memA .t10) 0 _ I))<|Rx 2 3664 I0 I X0 (Ay I ((P0.memA .t7) 0 _ I))<|Rv 3 I0 I X0 (fun _=>Ah I)<|Rv 4 I0 I X0 (fun _=>FV.andNotU (a:=a0) (b:=G0) I I)<|Rx 5 3648 I0 I X0 (Ay I ((P0.memA .t3) 0 _ I))<|Rv 6 I0 I X0 (fun _=>FV.andNotU (a:=a0&&&~~~G0) (b:=a0&&&(-a0)) I I)<|Rx 7 3840 I0 I X0 (Ay I ((P0.memA .t6) 0 _ I))<|bk h fun k5 J4 h=>Rv 8 I0 I X0 (fun _=>FV.subc (i:=a1) (j:=1) I I J4)<|bk h fun U0 j2 h=>RD.mo (α:=Unit) (fun ()=>[(11,vP B0),(56,vI A0),(65,vI U0.2)]) (fun ()=>(.cells pf [vI nn,vf,.func (.func 54) #[] #[vP pd,vP pq]] 100::.cells pq [vP pf] 91::.cells pd [.func (.func 52) #[] #[vP pc,vP pq,vP pd]] 136::.cells pc [.map (some pm)] 135::.obj pm (ab (U0.1:Lb ((Ua×Ua)×Int)))::.obj Y0 (lpO Z0 .busy none)::.obj R0 (.deferred (some []))::.cells C0 [vW ((a0&&&~~~(a0&&&(-a0))).toNat:Int)] 44::.cells E0 [vW ((a0&&&(-a0)).toNat:Int)] 44::.cells B0 [vI A0] 3::.cells v0 [vU a0,vW ((ac a1).toNat:Int)] 137::.cells u0 [vI a1] 3::.cells t0 [vU a0] 44::T9)) P0 2 1023 ?_ ?_
 rintro ⟨⟩ D5 K2 Y1
 try dsimp only
 refine bk h fun Q0 K4 h=>Bb (i:=10) (rk I0) (Bg (m' :=2047) (sk I0) I .plain I (Bu (i:=A0) (j:=U0.2) I I K4) ?_)
 refine BC 11 4095 I0 I I .plain (Az (news:=[vI Q0]) K2 .t9 I I I I I I (o1 I)) fun x5 M2 Z1=>AQ (dk I0)<|Ao<|MX.roundEnd g2 M2 .t5 fun q2 q1 b2=>Ac (BV I)<|Ab I<|Au (Ah I)<|Au (FV.eqlU (a:=G0) (b:=(0:Ua)) I I)<|Bo I I<|Aa<|AO I h (fun A2 h=>?_) (fun A2 h=>?_)
 refine Ap rfl<|Aw (u:=.tuple #[]) d2 func87 rfl .nil rfl<|MX.endRange0 q1 .t5 (by intro h9; cases h9) fun s2 J1 G3=>?_
 obtain ⟨s1,H3⟩:=qC J1 (qH (qH (qH (qH (qH (qI (qI (qI (qI (qI (qI (qI (.drop .hd .rest)))))))))))))
 refine Ao<|Ae<|AG I ((s1.memA .t3) 0 _ I)<|Ac (AP I (s1.memA .t9))<|AG I ((s1.memA .t8) 0 _ I)<|RG.now .plain (Acts.mapUpdateK (kv:=(a0,ac a1)) (vv:=Q0) jt s1 .t4 underlying135 I I I) fun y5 K1 I3=>Aa<|Ae<|AG I ((K1.memA .t8) 0 _ I)<|Af I<|Aa<|Ap I<|RT.take K1 .t5 fun x1 M1 J3=>?_
 obtain ⟨P1,K3⟩:=qC M1 (qH (qH (qH (qH (qH (qI (qI (qI (qI (qI (qI (.drop .hd .rest))))))))))))
 refine AV hb0 func52 I I ?_
 obtain ⟨P2,M3⟩:=qC P1 (qH (qH (qH (qH (qH (.drop .hd (.drop .hd (.drop .hd (.drop .hd (.drop .hd (.drop .hd .rest)))))))))))
 cases h
 exact ⟨P2,(Tt k1 (Tt Y1 (Tt Z1 (Tt b2 (Tt G3 (Tt H3 (Tt I3 (Tt J3 (Tt K3 M3))))))))),fun w9 hw9=>rfl⟩
 refine Am<|Ao<|Ak<|Ab I<|Ac (FV.subU (a:=G0) (b:=(1:Ua)) I I)<|AG I ((q1.memA .t7) 0 _ I)<|Ac (Br (a:=G0-(1:Ua)) (b:=a0&&&~~~(a0&&&(-a0))) I I)<|Af I<|Aa ?_
 obtain ⟨Q2,P3⟩:=qC q1 (.one .t5 (.one .t5 (.one .t5 (.one .t5 (.one .t5 (.one .t5 (.one .t5 (.one .t5 (qH (qH (qH (qH (qH .rest)))))))))))))
 exact F1 ((G0-(1:Ua))&&&(a0&&&~~~(a0&&&(-a0))),Q0,U0.1) Q2 (Tt C1 (Tt D1 (Tt Y1 (Tt Z1 (Tt b2 P3))))) h
 intro G1
 refine Bc [0,9] (rk I0) ⟨?_,?_,trivial⟩
 refine Bg (m' :=511) (sk I0) I .plain I (Ay I ((P0.memA .t4) 0 _ I)) ?_
 obtain ⟨A1,j1⟩:=qC P0 (.one .t8 (.one .t8 (.one .t8 (.one .t8 (.one .t8 (qH (qH (qH (qH (qH (qH (qH (qH .rest)))))))))))))
 have H4:=AB hf (Tt k1 j1)
 refine Bb (i:=9) (rk I0) (RO.callL (m' :=1023) (fst:=[]) (cap:=[vP pc,vP pq,vP pd]) (sk I0) I I .plain (bd 52) I (e2 I I) (fun w9 hw9=>hrec _ hL ft H0 (A1.agree hw9) (Ax H4 hw9) ((a0&&&~~~G0)&&&~~~(a0&&&(-a0))) j2) I (fun V4 R4 p1 E1 hu_=>?_))
 subst hu_
 exact G1 () p1 (Tt j1 E1)
 obtain ⟨A1,j1⟩:=qC P0 (.one .t8 (.one .t8 (.one .t8 (.one .t8 (.one .t8 (qH (qH (qH (qH (qH (qH (qH (qH .rest)))))))))))))
 refine RO.callL (m' :=1022) (fst:=[]) (cap:=[vP pc,vP pq,vP pd]) (sk I0) I I .plain (bd 52) I (e2 I I) (fun w9 hw9=>hrec _ hL ft H0 (A1.agree hw9) (Ax (AB hf (Tt k1 j1)) hw9) ((a0&&&~~~G0)&&&~~~(a0&&&(-a0))) j2) I fun V4 R4 p1 E1 hu_=>?_
 subst hu_
 refine Rx 0 3072 I0 I X0 (Ay I ((p1.memA .t9) 0 _ I))<|G1 () p1 (Tt j1 E1)
 refine Am<|Ao<|MX.roundEnd g2 P0 .hd fun z5 B1 c2=>Ac (BV I)<|Ab I<|Au (Ah I)<|Au (FV.eqlU (a:=G0) (b:=(0:Ua)) I I)<|Bo I I<|Aa<|AO I h (fun B2 h=>?_) (fun B2 h=>?_)
 refine Ap rfl<|Aw (u:=.tuple #[]) d2 func87 rfl .nil rfl<|MX.endRange0 B1 .hd (by intro h9; cases h9) fun u2 Q1 Q3=>?_
 obtain ⟨u1,R3⟩:=qC Q1 (qI (qI (qI (qI (qI (qI (qI (qI (qI (qI (qI (qI (.drop .hd .rest)))))))))))))
 refine Ao<|Ae<|AG I ((u1.memA .t10) 0 _ I)<|Ac (AP I (u1.memA .t4))<|AG I ((u1.memA .t3) 0 _ I)<|RG.now .plain (Acts.mapUpdateK (kv:=(a0,ac a1)) (vv:=A0) jt u1 .t11 underlying135 I I I) fun A5 R1 U3=>Aa<|Ae<|AG I ((R1.memA .t3) 0 _ I)<|Af I<|Aa<|Ap I<|RT.take R1 .hd fun y1 U1 V3=>?_
 obtain ⟨V1,W3⟩:=qC U1 (qI (qI (qI (qI (qI (qI (qI (qI (qI (qI (qI (.drop .hd .rest))))))))))))
 refine AV hb0 func52 I I ?_
 obtain ⟨R2,X3⟩:=qC V1 (.one .t6 (.one .t6 (.one .t6 (.one .t6 (.one .t6 (.drop .hd (.drop .hd (.drop .hd (.drop .hd (.drop .hd (.drop .hd .rest)))))))))))
 cases h
 exact ⟨R2,(Tt k1 (Tt c2 (Tt Q3 (Tt R3 (Tt U3 (Tt V3 (Tt W3 X3))))))),fun w9 hw9=>rfl⟩
 refine Am<|Ao<|Ak<|Ab I<|Ac (FV.subU (a:=G0) (b:=(1:Ua)) I I)<|AG I ((B1.memA .t2) 0 _ I)<|Ac (Br (a:=G0-(1:Ua)) (b:=a0&&&~~~(a0&&&(-a0))) I I)<|Af I<|Aa<|F1 ((G0-(1:Ua))&&&(a0&&&~~~(a0&&&(-a0))),A0,H0) B1 (Tt C1 (Tt D1 c2)) h
 intro z0
 refine Bc [0,1,4,5] (rk b0) ⟨?_,?_,?_,?_,trivial⟩
 refine Bg (m' :=1) (sk b0) I .plain I (Ay I ((F0.memA .t2) 0 _ I))<|Bc [1,4,5] (rk b0) ⟨?_,?_,?_,trivial⟩
 refine Bg (m' :=3) (sk b0) I .plain I (Ay I ((F0.memA .t2) 0 _ I))<|Rv 2 b0 I j0 (fun _=>FV.negU (a:=a0) I)<|Rv 3 b0 I j0 (fun _=>Br (a:=a0) (b:=-a0) I I)<|Bc [4,5] (rk b0) ⟨?_,?_,trivial⟩
 refine BH (m' :=31) (sk b0) I .plain I (AF [vI 0] F0) fun J0 d0 q0 x0=>RD.nu 5 63 b0 I .plain I (AF [vW 0] q0) fun K0 g0 s0 y0=>BC 6 127 b0 I I .plain (Az (news:=[vI 0]) s0 .t1 I I I I I I (o1 I)) fun p0 c0 k0=>z0 (g0,d0) c0 (Tt x0 (Tt y0 k0))
 refine BH (m' :=47) (sk b0) I .plain I (AF [vW 0] F0) fun K0 g0 s0 y0=>RD.nu 4 63 b0 I .plain I (AF [vI 0] s0) fun J0 d0 q0 x0=>BC 6 127 b0 I I .plain (Az (news:=[vI 0]) q0 .hd I I I I I I (o1 I)) fun p0 c0 k0=>?_
 obtain ⟨U2,Y3⟩:=qC c0 (qI (qH (qH (qH (qH (qH (qH (qH (qH (qH .rest))))))))))
 exact z0 (g0,d0) U2 (Tt y0 (Tt x0 (Tt k0 Y3)))
 refine BH (m' :=17) (sk b0) I .plain I (AF [vI 0] F0) fun J0 d0 q0 x0=>Bc [1,5] (rk b0) ⟨?_,?_,trivial⟩
 refine Bg (m' :=19) (sk b0) I .plain I (Ay I ((q0.memA .t3) 0 _ I))<|Rv 2 b0 I j0 (fun _=>FV.negU (a:=a0) I)<|Rv 3 b0 I j0 (fun _=>Br (a:=a0) (b:=-a0) I I)<|RD.nu 5 63 b0 I .plain I (AF [vW 0] q0) fun K0 g0 s0 y0=>BC 6 127 b0 I I .plain (Az (news:=[vI 0]) s0 .t1 I I I I I I (o1 I)) fun p0 c0 k0=>z0 (g0,d0) c0 (Tt x0 (Tt y0 k0))
 refine BH (m' :=49) (sk b0) I .plain I (AF [vW 0] q0) fun K0 g0 s0 y0=>Bc [1,6] (rk b0) ⟨?_,?_,trivial⟩
 refine Bg (m' :=51) (sk b0) I .plain I (Ay I ((s0.memA .t4) 0 _ I))<|Rv 2 b0 I j0 (fun _=>FV.negU (a:=a0) I)<|Rv 3 b0 I j0 (fun _=>Br (a:=a0) (b:=-a0) I I)<|BC 6 127 b0 I I .plain (Az (news:=[vI 0]) s0 .t1 I I I I I I (o1 I)) fun p0 c0 k0=>z0 (g0,d0) c0 (Tt x0 (Tt y0 k0))
 refine RO.now (m' :=113) (sk b0) I I .plain (Az (news:=[vI 0]) s0 .t1 I I I I I I (o1 I)) fun p0 c0 k0=>Rx 1 140 b0 I j0 (Ay I ((c0.memA .t4) 0 _ I))<|Rv 2 b0 I j0 (fun _=>FV.negU (a:=a0) I)<|Rv 3 b0 I j0 (fun _=>Br (a:=a0) (b:=-a0) I I)<|z0 (g0,d0) c0 (Tt x0 (Tt y0 k0))
 refine BH (m' :=33) (sk b0) I .plain I (AF [vW 0] F0) fun K0 g0 s0 y0=>Bc [1,4] (rk b0) ⟨?_,?_,trivial⟩
 refine Bg (m' :=35) (sk b0) I .plain I (Ay I ((s0.memA .t3) 0 _ I))<|Rv 2 b0 I j0 (fun _=>FV.negU (a:=a0) I)<|Rv 3 b0 I j0 (fun _=>Br (a:=a0) (b:=-a0) I I)<|RD.nu 4 63 b0 I .plain I (AF [vI 0] s0) fun J0 d0 q0 x0=>BC 6 127 b0 I I .plain (Az (news:=[vI 0]) q0 .hd I I I I I I (o1 I)) fun p0 c0 k0=>?_
 obtain ⟨V2,Z3⟩:=qC c0 (qI (qH (qH (qH (qH (qH (qH (qH (qH (qH .rest))))))))))
 exact z0 (g0,d0) V2 (Tt y0 (Tt x0 (Tt k0 Z3)))
 refine BH (m' :=49) (sk b0) I .plain I (AF [vI 0] s0) fun J0 d0 q0 x0=>Bc [1,6] (rk b0) ⟨?_,?_,trivial⟩
 refine Bg (m' :=51) (sk b0) I .plain I (Ay I ((q0.memA .t4) 0 _ I))<|Rv 2 b0 I j0 (fun _=>FV.negU (a:=a0) I)<|Rv 3 b0 I j0 (fun _=>Br (a:=a0) (b:=-a0) I I)<|BC 6 127 b0 I I .plain (Az (news:=[vI 0]) q0 .hd I I I I I I (o1 I)) fun p0 c0 k0=>?_
 obtain ⟨W2,b4⟩:=qC c0 (qI (qH (qH (qH (qH (qH (qH (qH (qH (qH .rest))))))))))
 exact z0 (g0,d0) W2 (Tt y0 (Tt x0 (Tt k0 b4)))
 refine RO.now (m' :=113) (sk b0) I I .plain (Az (news:=[vI 0]) q0 .hd I I I I I I (o1 I)) fun p0 c0 k0=>Rx 1 140 b0 I j0 (Ay I ((c0.memA .t4) 0 _ I))<|Rv 2 b0 I j0 (fun _=>FV.negU (a:=a0) I)<|Rv 3 b0 I j0 (fun _=>Br (a:=a0) (b:=-a0) I I) ?_
 obtain ⟨X2,c4⟩:=qC c0 (qI (qH (qH (qH (qH (qH (qH (qH (qH (qH .rest))))))))))
 exact z0 (g0,d0) X2 (Tt y0 (Tt x0 (Tt k0 c4)))
 refine Bg (m' :=2) (sk b0) I .plain I (Ay I ((F0.memA .t2) 0 _ I))<|Rv 2 b0 I j0 (fun _=>FV.negU (a:=a0) I)<|Bc [0,4,5] (rk b0) ⟨?_,?_,?_,trivial⟩
 refine Bg (m' :=7) (sk b0) I .plain I (Ay I ((F0.memA .t2) 0 _ I))<|Rv 3 b0 I j0 (fun _=>Br (a:=a0) (b:=-a0) I I)<|Bc [4,5] (rk b0) ⟨?_,?_,trivial⟩
 refine BH (m' :=31) (sk b0) I .plain I (AF [vI 0] F0) fun J0 d0 q0 x0=>RD.nu 5 63 b0 I .plain I (AF [vW 0] q0) fun K0 g0 s0 y0=>BC 6 127 b0 I I .plain (Az (news:=[vI 0]) s0 .t1 I I I I I I (o1 I)) fun p0 c0 k0=>z0 (g0,d0) c0 (Tt x0 (Tt y0 k0))
 refine BH (m' :=47) (sk b0) I .plain I (AF [vW 0] F0) fun K0 g0 s0 y0=>RD.nu 4 63 b0 I .plain I (AF [vI 0] s0) fun J0 d0 q0 x0=>BC 6 127 b0 I I .plain (Az (news:=[vI 0]) q0 .hd I I I I I I (o1 I)) fun p0 c0 k0=>?_
 obtain ⟨Y2,d4⟩:=qC c0 (qI (qH (qH (qH (qH (qH (qH (qH (qH (qH .rest))))))))))
 exact z0 (g0,d0) Y2 (Tt y0 (Tt x0 (Tt k0 d4)))
 refine BH (m' :=22) (sk b0) I .plain I (AF [vI 0] F0) fun J0 d0 q0 x0=>Bc [0,5] (rk b0) ⟨?_,?_,trivial⟩
 refine Bg (m' :=23) (sk b0) I .plain I (Ay I ((q0.memA .t3) 0 _ I))<|Rv 3 b0 I j0 (fun _=>Br (a:=a0) (b:=-a0) I I)<|RD.nu 5 63 b0 I .plain I (AF [vW 0] q0) fun K0 g0 s0 y0=>BC 6 127 b0 I I .plain (Az (news:=[vI 0]) s0 .t1 I I I I I I (o1 I)) fun p0 c0 k0=>z0 (g0,d0) c0 (Tt x0 (Tt y0 k0))
 refine BH (m' :=54) (sk b0) I .plain I (AF [vW 0] q0) fun K0 g0 s0 y0=>Bc [0,6] (rk b0) ⟨?_,?_,trivial⟩
 refine Bg (m' :=55) (sk b0) I .plain I (Ay I ((s0.memA .t4) 0 _ I))<|Rv 3 b0 I j0 (fun _=>Br (a:=a0) (b:=-a0) I I)<|BC 6 127 b0 I I .plain (Az (news:=[vI 0]) s0 .t1 I I I I I I (o1 I)) fun p0 c0 k0=>z0 (g0,d0) c0 (Tt x0 (Tt y0 k0))
 refine RO.now (m' :=118) (sk b0) I I .plain (Az (news:=[vI 0]) s0 .t1 I I I I I I (o1 I)) fun p0 c0 k0=>Rx 0 136 b0 I j0 (Ay I ((c0.memA .t4) 0 _ I))<|Rv 3 b0 I j0 (fun _=>Br (a:=a0) (b:=-a0) I I)<|z0 (g0,d0) c0 (Tt x0 (Tt y0 k0))
 refine BH (m' :=38) (sk b0) I .plain I (AF [vW 0] F0) fun K0 g0 s0 y0=>Bc [0,4] (rk b0) ⟨?_,?_,trivial⟩
 refine Bg (m' :=39) (sk b0) I .plain I (Ay I ((s0.memA .t3) 0 _ I))<|Rv 3 b0 I j0 (fun _=>Br (a:=a0) (b:=-a0) I I)<|RD.nu 4 63 b0 I .plain I (AF [vI 0] s0) fun J0 d0 q0 x0=>BC 6 127 b0 I I .plain (Az (news:=[vI 0]) q0 .hd I I I I I I (o1 I)) fun p0 c0 k0=>?_
 obtain ⟨Z2,g4⟩:=qC c0 (qI (qH (qH (qH (qH (qH (qH (qH (qH (qH .rest))))))))))
 exact z0 (g0,d0) Z2 (Tt y0 (Tt x0 (Tt k0 g4)))
 refine BH (m' :=54) (sk b0) I .plain I (AF [vI 0] s0) fun J0 d0 q0 x0=>Bc [0,6] (rk b0) ⟨?_,?_,trivial⟩
 refine Bg (m' :=55) (sk b0) I .plain I (Ay I ((q0.memA .t4) 0 _ I))<|Rv 3 b0 I j0 (fun _=>Br (a:=a0) (b:=-a0) I I)<|BC 6 127 b0 I I .plain (Az (news:=[vI 0]) q0 .hd I I I I I I (o1 I)) fun p0 c0 k0=>?_
 obtain ⟨b3,j4⟩:=qC c0 (qI (qH (qH (qH (qH (qH (qH (qH (qH (qH .rest))))))))))
 exact z0 (g0,d0) b3 (Tt y0 (Tt x0 (Tt k0 j4)))
 refine RO.now (m' :=118) (sk b0) I I .plain (Az (news:=[vI 0]) q0 .hd I I I I I I (o1 I)) fun p0 c0 k0=>Rx 0 136 b0 I j0 (Ay I ((c0.memA .t4) 0 _ I))<|Rv 3 b0 I j0 (fun _=>Br (a:=a0) (b:=-a0) I I) ?_
 obtain ⟨c3,k4⟩:=qC c0 (qI (qH (qH (qH (qH (qH (qH (qH (qH (qH .rest))))))))))
 exact z0 (g0,d0) c3 (Tt y0 (Tt x0 (Tt k0 k4)))
 refine BH (m' :=16) (sk b0) I .plain I (AF [vI 0] F0) fun J0 d0 q0 x0=>Bc [0,1,5] (rk b0) ⟨?_,?_,?_,trivial⟩
 refine Bg (m' :=17) (sk b0) I .plain I (Ay I ((q0.memA .t3) 0 _ I))<|Bc [1,5] (rk b0) ⟨?_,?_,trivial⟩
 refine Bg (m' :=19) (sk b0) I .plain I (Ay I ((q0.memA .t3) 0 _ I))<|Rv 2 b0 I j0 (fun _=>FV.negU (a:=a0) I)<|Rv 3 b0 I j0 (fun _=>Br (a:=a0) (b:=-a0) I I)<|RD.nu 5 63 b0 I .plain I (AF [vW 0] q0) fun K0 g0 s0 y0=>BC 6 127 b0 I I .plain (Az (news:=[vI 0]) s0 .t1 I I I I I I (o1 I)) fun p0 c0 k0=>z0 (g0,d0) c0 (Tt x0 (Tt y0 k0))
 refine BH (m' :=49) (sk b0) I .plain I (AF [vW 0] q0) fun K0 g0 s0 y0=>Bc [1,6] (rk b0) ⟨?_,?_,trivial⟩
 refine Bg (m' :=51) (sk b0) I .plain I (Ay I ((s0.memA .t4) 0 _ I))<|Rv 2 b0 I j0 (fun _=>FV.negU (a:=a0) I)<|Rv 3 b0 I j0 (fun _=>Br (a:=a0) (b:=-a0) I I)<|BC 6 127 b0 I I .plain (Az (news:=[vI 0]) s0 .t1 I I I I I I (o1 I)) fun p0 c0 k0=>z0 (g0,d0) c0 (Tt x0 (Tt y0 k0))
 refine RO.now (m' :=113) (sk b0) I I .plain (Az (news:=[vI 0]) s0 .t1 I I I I I I (o1 I)) fun p0 c0 k0=>Rx 1 140 b0 I j0 (Ay I ((c0.memA .t4) 0 _ I))<|Rv 2 b0 I j0 (fun _=>FV.negU (a:=a0) I)<|Rv 3 b0 I j0 (fun _=>Br (a:=a0) (b:=-a0) I I)<|z0 (g0,d0) c0 (Tt x0 (Tt y0 k0))
 refine Bg (m' :=18) (sk b0) I .plain I (Ay I ((q0.memA .t3) 0 _ I))<|Rv 2 b0 I j0 (fun _=>FV.negU (a:=a0) I)<|Bc [0,5] (rk b0) ⟨?_,?_,trivial⟩
 refine Bg (m' :=23) (sk b0) I .plain I (Ay I ((q0.memA .t3) 0 _ I))<|Rv 3 b0 I j0 (fun _=>Br (a:=a0) (b:=-a0) I I)<|RD.nu 5 63 b0 I .plain I (AF [vW 0] q0) fun K0 g0 s0 y0=>BC 6 127 b0 I I .plain (Az (news:=[vI 0]) s0 .t1 I I I I I I (o1 I)) fun p0 c0 k0=>z0 (g0,d0) c0 (Tt x0 (Tt y0 k0))
 refine BH (m' :=54) (sk b0) I .plain I (AF [vW 0] q0) fun K0 g0 s0 y0=>Bc [0,6] (rk b0) ⟨?_,?_,trivial⟩
 refine Bg (m' :=55) (sk b0) I .plain I (Ay I ((s0.memA .t4) 0 _ I))<|Rv 3 b0 I j0 (fun _=>Br (a:=a0) (b:=-a0) I I)<|BC 6 127 b0 I I .plain (Az (news:=[vI 0]) s0 .t1 I I I I I I (o1 I)) fun p0 c0 k0=>z0 (g0,d0) c0 (Tt x0 (Tt y0 k0))
 refine RO.now (m' :=118) (sk b0) I I .plain (Az (news:=[vI 0]) s0 .t1 I I I I I I (o1 I)) fun p0 c0 k0=>Rx 0 136 b0 I j0 (Ay I ((c0.memA .t4) 0 _ I))<|Rv 3 b0 I j0 (fun _=>Br (a:=a0) (b:=-a0) I I)<|z0 (g0,d0) c0 (Tt x0 (Tt y0 k0))
 refine BH (m' :=48) (sk b0) I .plain I (AF [vW 0] q0) fun K0 g0 s0 y0=>Bc [0,1,6] (rk b0) ⟨?_,?_,?_,trivial⟩
 refine Bg (m' :=49) (sk b0) I .plain I (Ay I ((s0.memA .t4) 0 _ I))<|Bc [1,6] (rk b0) ⟨?_,?_,trivial⟩
 refine Bg (m' :=51) (sk b0) I .plain I (Ay I ((s0.memA .t4) 0 _ I))<|Rv 2 b0 I j0 (fun _=>FV.negU (a:=a0) I)<|Rv 3 b0 I j0 (fun _=>Br (a:=a0) (b:=-a0) I I)<|BC 6 127 b0 I I .plain (Az (news:=[vI 0]) s0 .t1 I I I I I I (o1 I)) fun p0 c0 k0=>z0 (g0,d0) c0 (Tt x0 (Tt y0 k0))
 refine RO.now (m' :=113) (sk b0) I I .plain (Az (news:=[vI 0]) s0 .t1 I I I I I I (o1 I)) fun p0 c0 k0=>Rx 1 140 b0 I j0 (Ay I ((c0.memA .t4) 0 _ I))<|Rv 2 b0 I j0 (fun _=>FV.negU (a:=a0) I)<|Rv 3 b0 I j0 (fun _=>Br (a:=a0) (b:=-a0) I I)<|z0 (g0,d0) c0 (Tt x0 (Tt y0 k0))
 refine Bg (m' :=50) (sk b0) I .plain I (Ay I ((s0.memA .t4) 0 _ I))<|Rv 2 b0 I j0 (fun _=>FV.negU (a:=a0) I)<|Bc [0,6] (rk b0) ⟨?_,?_,trivial⟩
 refine Bg (m' :=55) (sk b0) I .plain I (Ay I ((s0.memA .t4) 0 _ I))<|Rv 3 b0 I j0 (fun _=>Br (a:=a0) (b:=-a0) I I)<|BC 6 127 b0 I I .plain (Az (news:=[vI 0]) s0 .t1 I I I I I I (o1 I)) fun p0 c0 k0=>z0 (g0,d0) c0 (Tt x0 (Tt y0 k0))
 refine RO.now (m' :=118) (sk b0) I I .plain (Az (news:=[vI 0]) s0 .t1 I I I I I I (o1 I)) fun p0 c0 k0=>Rx 0 136 b0 I j0 (Ay I ((c0.memA .t4) 0 _ I))<|Rv 3 b0 I j0 (fun _=>Br (a:=a0) (b:=-a0) I I)<|z0 (g0,d0) c0 (Tt x0 (Tt y0 k0))
 refine RO.now (m' :=112) (sk b0) I I .plain (Az (news:=[vI 0]) s0 .t1 I I I I I I (o1 I)) fun p0 c0 k0=>Rx 0 136 b0 I j0 (Ay I ((c0.memA .t4) 0 _ I))<|Rx 1 140 b0 I j0 (Ay I ((c0.memA .t4) 0 _ I))<|Rv 2 b0 I j0 (fun _=>FV.negU (a:=a0) I)<|Rv 3 b0 I j0 (fun _=>Br (a:=a0) (b:=-a0) I I)<|z0 (g0,d0) c0 (Tt x0 (Tt y0 k0))
 refine BH (m' :=32) (sk b0) I .plain I (AF [vW 0] F0) fun K0 g0 s0 y0=>Bc [0,1,4] (rk b0) ⟨?_,?_,?_,trivial⟩
 refine Bg (m' :=33) (sk b0) I .plain I (Ay I ((s0.memA .t3) 0 _ I))<|Bc [1,4] (rk b0) ⟨?_,?_,trivial⟩
 refine Bg (m' :=35) (sk b0) I .plain I (Ay I ((s0.memA .t3) 0 _ I))<|Rv 2 b0 I j0 (fun _=>FV.negU (a:=a0) I)<|Rv 3 b0 I j0 (fun _=>Br (a:=a0) (b:=-a0) I I)<|RD.nu 4 63 b0 I .plain I (AF [vI 0] s0) fun J0 d0 q0 x0=>BC 6 127 b0 I I .plain (Az (news:=[vI 0]) q0 .hd I I I I I I (o1 I)) fun p0 c0 k0=>?_
 obtain ⟨d3,p4⟩:=qC c0 (qI (qH (qH (qH (qH (qH (qH (qH (qH (qH .rest))))))))))
 exact z0 (g0,d0) d3 (Tt y0 (Tt x0 (Tt k0 p4)))
 refine BH (m' :=49) (sk b0) I .plain I (AF [vI 0] s0) fun J0 d0 q0 x0=>Bc [1,6] (rk b0) ⟨?_,?_,trivial⟩
 refine Bg (m' :=51) (sk b0) I .plain I (Ay I ((q0.memA .t4) 0 _ I))<|Rv 2 b0 I j0 (fun _=>FV.negU (a:=a0) I)<|Rv 3 b0 I j0 (fun _=>Br (a:=a0) (b:=-a0) I I)<|BC 6 127 b0 I I .plain (Az (news:=[vI 0]) q0 .hd I I I I I I (o1 I)) fun p0 c0 k0=>?_
 obtain ⟨g3,q4⟩:=qC c0 (qI (qH (qH (qH (qH (qH (qH (qH (qH (qH .rest))))))))))
 exact z0 (g0,d0) g3 (Tt y0 (Tt x0 (Tt k0 q4)))
 refine RO.now (m' :=113) (sk b0) I I .plain (Az (news:=[vI 0]) q0 .hd I I I I I I (o1 I)) fun p0 c0 k0=>Rx 1 140 b0 I j0 (Ay I ((c0.memA .t4) 0 _ I))<|Rv 2 b0 I j0 (fun _=>FV.negU (a:=a0) I)<|Rv 3 b0 I j0 (fun _=>Br (a:=a0) (b:=-a0) I I) ?_
 obtain ⟨j3,s4⟩:=qC c0 (qI (qH (qH (qH (qH (qH (qH (qH (qH (qH .rest))))))))))
 exact z0 (g0,d0) j3 (Tt y0 (Tt x0 (Tt k0 s4)))
 refine Bg (m' :=34) (sk b0) I .plain I (Ay I ((s0.memA .t3) 0 _ I))<|Rv 2 b0 I j0 (fun _=>FV.negU (a:=a0) I)<|Bc [0,4] (rk b0) ⟨?_,?_,trivial⟩
 refine Bg (m' :=39) (sk b0) I .plain I (Ay I ((s0.memA .t3) 0 _ I))<|Rv 3 b0 I j0 (fun _=>Br (a:=a0) (b:=-a0) I I)<|RD.nu 4 63 b0 I .plain I (AF [vI 0] s0) fun J0 d0 q0 x0=>BC 6 127 b0 I I .plain (Az (news:=[vI 0]) q0 .hd I I I I I I (o1 I)) fun p0 c0 k0=>?_
 obtain ⟨k3,u4⟩:=qC c0 (qI (qH (qH (qH (qH (qH (qH (qH (qH (qH .rest))))))))))
 exact z0 (g0,d0) k3 (Tt y0 (Tt x0 (Tt k0 u4)))
 refine BH (m' :=54) (sk b0) I .plain I (AF [vI 0] s0) fun J0 d0 q0 x0=>Bc [0,6] (rk b0) ⟨?_,?_,trivial⟩
 refine Bg (m' :=55) (sk b0) I .plain I (Ay I ((q0.memA .t4) 0 _ I))<|Rv 3 b0 I j0 (fun _=>Br (a:=a0) (b:=-a0) I I)<|BC 6 127 b0 I I .plain (Az (news:=[vI 0]) q0 .hd I I I I I I (o1 I)) fun p0 c0 k0=>?_
 obtain ⟨p3,v4⟩:=qC c0 (qI (qH (qH (qH (qH (qH (qH (qH (qH (qH .rest))))))))))
 exact z0 (g0,d0) p3 (Tt y0 (Tt x0 (Tt k0 v4)))
 refine RO.now (m' :=118) (sk b0) I I .plain (Az (news:=[vI 0]) q0 .hd I I I I I I (o1 I)) fun p0 c0 k0=>Rx 0 136 b0 I j0 (Ay I ((c0.memA .t4) 0 _ I))<|Rv 3 b0 I j0 (fun _=>Br (a:=a0) (b:=-a0) I I) ?_
 obtain ⟨q3,x4⟩:=qC c0 (qI (qH (qH (qH (qH (qH (qH (qH (qH (qH .rest))))))))))
 exact z0 (g0,d0) q3 (Tt y0 (Tt x0 (Tt k0 x4)))
 refine BH (m' :=48) (sk b0) I .plain I (AF [vI 0] s0) fun J0 d0 q0 x0=>Bc [0,1,6] (rk b0) ⟨?_,?_,?_,trivial⟩
 refine Bg (m' :=49) (sk b0) I .plain I (Ay I ((q0.memA .t4) 0 _ I))<|Bc [1,6] (rk b0) ⟨?_,?_,trivial⟩
 refine Bg (m' :=51) (sk b0) I .plain I (Ay I ((q0.memA .t4) 0 _ I))<|Rv 2 b0 I j0 (fun _=>FV.negU (a:=a0) I)<|Rv 3 b0 I j0 (fun _=>Br (a:=a0) (b:=-a0) I I)<|BC 6 127 b0 I I .plain (Az (news:=[vI 0]) q0 .hd I I I I I I (o1 I)) fun p0 c0 k0=>?_
 obtain ⟨s3,y4⟩:=qC c0 (qI (qH (qH (qH (qH (qH (qH (qH (qH (qH .rest))))))))))
 exact z0 (g0,d0) s3 (Tt y0 (Tt x0 (Tt k0 y4)))
 refine RO.now (m' :=113) (sk b0) I I .plain (Az (news:=[vI 0]) q0 .hd I I I I I I (o1 I)) fun p0 c0 k0=>Rx 1 140 b0 I j0 (Ay I ((c0.memA .t4) 0 _ I))<|Rv 2 b0 I j0 (fun _=>FV.negU (a:=a0) I)<|Rv 3 b0 I j0 (fun _=>Br (a:=a0) (b:=-a0) I I) ?_
 obtain ⟨u3,z4⟩:=qC c0 (qI (qH (qH (qH (qH (qH (qH (qH (qH (qH .rest))))))))))
 exact z0 (g0,d0) u3 (Tt y0 (Tt x0 (Tt k0 z4)))
 refine Bg (m' :=50) (sk b0) I .plain I (Ay I ((q0.memA .t4) 0 _ I))<|Rv 2 b0 I j0 (fun _=>FV.negU (a:=a0) I)<|Bc [0,6] (rk b0) ⟨?_,?_,trivial⟩
 refine Bg (m' :=55) (sk b0) I .plain I (Ay I ((q0.memA .t4) 0 _ I))<|Rv 3 b0 I j0 (fun _=>Br (a:=a0) (b:=-a0) I I)<|BC 6 127 b0 I I .plain (Az (news:=[vI 0]) q0 .hd I I I I I I (o1 I)) fun p0 c0 k0=>?_
 obtain ⟨v3,A4⟩:=qC c0 (qI (qH (qH (qH (qH (qH (qH (qH (qH (qH .rest))))))))))
 exact z0 (g0,d0) v3 (Tt y0 (Tt x0 (Tt k0 A4)))
 refine RO.now (m' :=118) (sk b0) I I .plain (Az (news:=[vI 0]) q0 .hd I I I I I I (o1 I)) fun p0 c0 k0=>Rx 0 136 b0 I j0 (Ay I ((c0.memA .t4) 0 _ I))<|Rv 3 b0 I j0 (fun _=>Br (a:=a0) (b:=-a0) I I) ?_
 obtain ⟨x3,B4⟩:=qC c0 (qI (qH (qH (qH (qH (qH (qH (qH (qH (qH .rest))))))))))
 exact z0 (g0,d0) x3 (Tt y0 (Tt x0 (Tt k0 B4)))
 refine RO.now (m' :=112) (sk b0) I I .plain (Az (news:=[vI 0]) q0 .hd I I I I I I (o1 I)) fun p0 c0 k0=>Rx 0 136 b0 I j0 (Ay I ((c0.memA .t4) 0 _ I))<|Rx 1 140 b0 I j0 (Ay I ((c0.memA .t4) 0 _ I))<|Rv 2 b0 I j0 (fun _=>FV.negU (a:=a0) I)<|Rv 3 b0 I j0 (fun _=>Br (a:=a0) (b:=-a0) I I) ?_
 obtain ⟨y3,C4⟩:=qC c0 (qI (qH (qH (qH (qH (qH (qH (qH (qH (qH .rest))))))))))
 exact z0 (g0,d0) y3 (Tt y0 (Tt x0 (Tt k0 C4)))
def aE (n:Nat):Nat->(Lb Bool)->(Lb ((Ua×Ua)×Int))->Ua->Int->Oa ((Lb ((Ua×Ua)×Int))×Int)
  | 0=>fun _ _ _ _=>none
  | k+1=>bz n (aE n k)
def bv_p (n:Nat):(Lb Bool)->(Lb ((Ua×Ua)×Int))->Ua->Int->Oa ((Lb ((Ua×Ua)×Int))×Int):=aE n n
theorem cU (n:Nat):∀ (k:Nat) (L:Lb Nat) {w0 w:World} {T9:Lb Ob} (_:∀ b∈L,b<w0.heap.size) {pf pq pd pc pm:Nat} {vf:Vc} {nn:Int} (ft:Lb Bool) (D0:Lb ((Ua×Ua)×Int)) (_hS0:St w0 w (.cells pf [vI nn,vf,.func (.func 54) #[] #[vP pd,vP pq]] 100::.cells pq [vP pf] 91::.cells pd [.func (.func 52) #[] #[vP pc,vP pq,vP pd]] 136::.cells pc [.map (some pm)] 135::.obj pm (ab (D0:Lb ((Ua×Ua)×Int)))::T9)) (_hf:Rep.R w (bl (.cells pf [vI nn,vf,.func (.func 54) #[] #[vP pd,vP pq]] 100::.cells pq [vP pf] 91::.cells pd [.func (.func 52) #[] #[vP pc,vP pq,vP pd]] 136::.cells pc [.map (some pm)] 135::.obj pm (ab (D0:Lb ((Ua×Ua)×Int)))::T9)++L) [vf] ft) (a0:Ua) {a1:Int} {r:(Lb ((Ua×Ua)×Int))×Int} (_h:aE n k ft D0 a0 a1=some r),Calls Tryz.prog 52 #[vU a0,vI a1,vP pc,vP pq,vP pd] w (eP w0 w (.cells pf [vI nn,vf,.func (.func 54) #[] #[vP pd,vP pq]] 100::.cells pq [vP pf] 91::.cells pd [.func (.func 52) #[] #[vP pc,vP pq,vP pd]] 136::.cells pc [.map (some pm)] 135::.obj pm (ab (D0:Lb ((Ua×Ua)×Int)))::T9) (.cells pf [vI nn,vf,.func (.func 54) #[] #[vP pd,vP pq]] 100::.cells pq [vP pf] 91::.cells pd [.func (.func 52) #[] #[vP pc,vP pq,vP pd]] 136::.cells pc [.map (some pm)] 135::.obj pm (ab (r.1:Lb ((Ua×Ua)×Int)))::T9) (fun _ u=>u=vI r.2))
  | 0=>by
    intros
    rename_i h
    exact Calls.none_r h
  | k+1=>fY n (aE n k) (cU n k)
theorem bv_c (n:Nat):∀ (L:Lb Nat) {w0 w:World} {T9:Lb Ob} (_:∀ b∈L,b<w0.heap.size) {pf pq pd pc pm:Nat} {vf:Vc} {nn:Int} (ft:Lb Bool) (D0:Lb ((Ua×Ua)×Int)) (_hS0:St w0 w (.cells pf [vI nn,vf,.func (.func 54) #[] #[vP pd,vP pq]] 100::.cells pq [vP pf] 91::.cells pd [.func (.func 52) #[] #[vP pc,vP pq,vP pd]] 136::.cells pc [.map (some pm)] 135::.obj pm (ab (D0:Lb ((Ua×Ua)×Int)))::T9)) (_hf:Rep.R w (bl (.cells pf [vI nn,vf,.func (.func 54) #[] #[vP pd,vP pq]] 100::.cells pq [vP pf] 91::.cells pd [.func (.func 52) #[] #[vP pc,vP pq,vP pd]] 136::.cells pc [.map (some pm)] 135::.obj pm (ab (D0:Lb ((Ua×Ua)×Int)))::T9)++L) [vf] ft) (a0:Ua) {a1:Int} {r:(Lb ((Ua×Ua)×Int))×Int} (_h:bv_p n ft D0 a0 a1=some r),Calls Tryz.prog 52 #[vU a0,vI a1,vP pc,vP pq,vP pd] w (eP w0 w (.cells pf [vI nn,vf,.func (.func 54) #[] #[vP pd,vP pq]] 100::.cells pq [vP pf] 91::.cells pd [.func (.func 52) #[] #[vP pc,vP pq,vP pd]] 136::.cells pc [.map (some pm)] 135::.obj pm (ab (D0:Lb ((Ua×Ua)×Int)))::T9) (.cells pf [vI nn,vf,.func (.func 54) #[] #[vP pd,vP pq]] 100::.cells pq [vP pf] 91::.cells pd [.func (.func 52) #[] #[vP pc,vP pq,vP pd]] 136::.cells pc [.map (some pm)] 135::.obj pm (ab (r.1:Lb ((Ua×Ua)×Int)))::T9) (fun _ u=>u=vI r.2)):=cU n n

def ay_l1 (rec:(Lb Bool)->(Lb ((Ua×Ua)×Int))->(Lb Ua)->Ua->Int->Oa ((Lb ((Ua×Ua)×Int))×Int)) (_n:Nat) (a0:Lb Ua) (ft:Lb Bool) (a2:Int) (a1:Ua) (j0:Ua×Int×(Lb ((Ua×Ua)×Int))->Oa ((Lb ((Ua×Ua)×Int))×Int)):Ua×Int×(Lb ((Ua×Ua)×Int))->Oa ((Lb ((Ua×Ua)×Int))×Int)
  | (b0,g0,c0)=>(a0[0]?).bind fun q0=>(ft[(q0|||b0).toNat]?).bind fun s0=>(if s0=true then (cut a0 1 (a0.length:Int)).bind fun t0=>(chk (a2-1)).bind fun p0=>(rec ft c0 t0 (a1&&&~~~b0) p0).bind fun d0=>(chk (g0+d0.2)).bind fun k0=>(if b0=(0:Ua) then some (d0.1,k0) else j0 ((b0-(1:Ua))&&&a1,k0,d0.1)) else (if b0=(0:Ua) then some (c0,g0) else j0 ((b0-(1:Ua))&&&a1,g0,c0)))
def aV (n:Nat) (rec:(Lb Bool)->(Lb ((Ua×Ua)×Int))->(Lb Ua)->Ua->Int->Oa ((Lb ((Ua×Ua)×Int))×Int)) (ft:Lb Bool) (D0:Lb ((Ua×Ua)×Int)) (a0:Lb Ua) (a1:Ua) (a2:Int):Oa ((Lb ((Ua×Ua)×Int))×Int):=
  (if a0.length=0 then (bv_p n ft D0 a1 a2).bind fun b0=>some (b0.1,b0.2) else (if ((a0.length:Nat):Int)<=a2 then ah (ay_l1 rec n a0 ft a2 a1) n (a1,0,D0) else some (D0,(0:Int))))
theorem fW (n:Nat) (rec:(Lb Bool)->(Lb ((Ua×Ua)×Int))->(Lb Ua)->Ua->Int->Oa ((Lb ((Ua×Ua)×Int))×Int)) (hrec:∀ (L:Lb Nat) {w0 w:World} {T9:Lb Ob} (_:∀ b∈L,b<w0.heap.size) {pf pq pd pc pm:Nat} {vf:Vc} {nn:Int} (ft:Lb Bool) (D0:Lb ((Ua×Ua)×Int)) (_hS0:St w0 w (.cells pf [vI nn,vf,.func (.func 54) #[] #[vP pd,vP pq]] 100::.cells pq [vP pf] 91::.cells pd [.func (.func 52) #[] #[vP pc,vP pq,vP pd]] 136::.cells pc [.map (some pm)] 135::.obj pm (ab (D0:Lb ((Ua×Ua)×Int)))::T9)) (_hf:Rep.R w (bl (.cells pf [vI nn,vf,.func (.func 54) #[] #[vP pd,vP pq]] 100::.cells pq [vP pf] 91::.cells pd [.func (.func 52) #[] #[vP pc,vP pq,vP pd]] 136::.cells pc [.map (some pm)] 135::.obj pm (ab (D0:Lb ((Ua×Ua)×Int)))::T9)++L) [vf] ft) {a0:Lb Ua} {v0_0:Vc} (_h0_0:Rep.R w (bl (.cells pf [vI nn,vf,.func (.func 54) #[] #[vP pd,vP pq]] 100::.cells pq [vP pf] 91::.cells pd [.func (.func 52) #[] #[vP pc,vP pq,vP pd]] 136::.cells pc [.map (some pm)] 135::.obj pm (ab (D0:Lb ((Ua×Ua)×Int)))::T9)++L) [v0_0] a0) (a1:Ua) {a2:Int} {r:(Lb ((Ua×Ua)×Int))×Int} (_h:rec ft D0 a0 a1 a2=some r),Calls Tryz.prog 54 #[v0_0,vU a1,vI a2,vP pd,vP pq] w (eP w0 w (.cells pf [vI nn,vf,.func (.func 54) #[] #[vP pd,vP pq]] 100::.cells pq [vP pf] 91::.cells pd [.func (.func 52) #[] #[vP pc,vP pq,vP pd]] 136::.cells pc [.map (some pm)] 135::.obj pm (ab (D0:Lb ((Ua×Ua)×Int)))::T9) (.cells pf [vI nn,vf,.func (.func 54) #[] #[vP pd,vP pq]] 100::.cells pq [vP pf] 91::.cells pd [.func (.func 52) #[] #[vP pc,vP pq,vP pd]] 136::.cells pc [.map (some pm)] 135::.obj pm (ab (r.1:Lb ((Ua×Ua)×Int)))::T9) (fun _ u=>u=vI r.2))) (L:Lb Nat) {w0 w:World} {T9:Lb Ob} (hL:∀ b∈L,b<w0.heap.size) {pf pq pd pc pm:Nat} {vf:Vc} {nn:Int} (ft:Lb Bool) (D0:Lb ((Ua×Ua)×Int)) (hS0:St w0 w (.cells pf [vI nn,vf,.func (.func 54) #[] #[vP pd,vP pq]] 100::.cells pq [vP pf] 91::.cells pd [.func (.func 52) #[] #[vP pc,vP pq,vP pd]] 136::.cells pc [.map (some pm)] 135::.obj pm (ab (D0:Lb ((Ua×Ua)×Int)))::T9)) (hf:Rep.R w (bl (.cells pf [vI nn,vf,.func (.func 54) #[] #[vP pd,vP pq]] 100::.cells pq [vP pf] 91::.cells pd [.func (.func 52) #[] #[vP pc,vP pq,vP pd]] 136::.cells pc [.map (some pm)] 135::.obj pm (ab (D0:Lb ((Ua×Ua)×Int)))::T9)++L) [vf] ft) {a0:Lb Ua} {v0_0:Vc} (h0_0:Rep.R w (bl (.cells pf [vI nn,vf,.func (.func 54) #[] #[vP pd,vP pq]] 100::.cells pq [vP pf] 91::.cells pd [.func (.func 52) #[] #[vP pc,vP pq,vP pd]] 136::.cells pc [.map (some pm)] 135::.obj pm (ab (D0:Lb ((Ua×Ua)×Int)))::T9)++L) [v0_0] a0) (a1:Ua) {a2:Int} {r:(Lb ((Ua×Ua)×Int))×Int} (h:aV n rec ft D0 a0 a1 a2=some r) :
 Cl 54 #[v0_0,vU a1,vI a2,vP pd,vP pq] w (eP w0 w (.cells pf [vI nn,vf,.func (.func 54) #[] #[vP pd,vP pq]] 100::.cells pq [vP pf] 91::.cells pd [.func (.func 52) #[] #[vP pc,vP pq,vP pd]] 136::.cells pc [.map (some pm)] 135::.obj pm (ab (D0:Lb ((Ua×Ua)×Int)))::T9) (.cells pf [vI nn,vf,.func (.func 54) #[] #[vP pd,vP pq]] 100::.cells pq [vP pf] 91::.cells pd [.func (.func 52) #[] #[vP pc,vP pq,vP pd]] 136::.cells pc [.map (some pm)] 135::.obj pm (ab (r.1:Lb ((Ua×Ua)×Int)))::T9) (fun _ u=>u=vI r.2)):=by
 unfold aV at h
 refine MX.startL func54 I I I fun _ cs0 hb0=>Ae<|RG.bx hS0 I (Rep.c1 h0_0) fun j4 j0 k2 C2=>RG.bx k2 I I fun k4 k0 p2 D2=>RG.bx p2 I I fun Q1 p0 F0 E2=>Af I<|Aa<|Ai<|Ae<|AG I ((F0.memA .t2) 0 _ I) ?_
 have K0:=Tt C2 (Tt D2 E2)
 have J1:=AB h0_0 K0
 have X3:=AY J1
 refine Ac (Bf (xs:=a0) underlying101 I J1)<|Ac (FV.eqlN (i:=a0.length) (j:=0) I I)<|Aa<|AO I h (fun Z1 h=>?_) (fun Z1 h=>?_)
 refine Ae<|AG I ((F0.memA .t5) 0 _ I)<|AG I ((F0.memA .t1) 0 _ I)<|AG I ((F0.memA .hd) 0 _ I)<|bk h fun X1 F3 h=>?_
 obtain ⟨q2,B1⟩:=qC F0 (qK (qK (qK (qK (qK (qH (qH (qH .rest))))))))
 refine RG.callL (fst:=[]) (cap:=[vP pc,vP pq,vP pd]) .plain (bd 52) I (e2 I I) (fun w9 hw9=>bv_c n _ hL ft D0 (q2.agree hw9) (Ax (AB hf (Tt K0 B1)) hw9) a1 F3) I fun R1 d4 z1 W2 hu_=>?_
 subst hu_
 refine Af I<|Aa<|Ap I<|AV hb0 func54 I I ?_
 obtain ⟨A2,X2⟩:=qC z1 (qH (qH (qH (qH (qH (.drop .hd (.drop .hd (.drop .hd .rest))))))))
 cases h
 exact ⟨A2,(Tt K0 (Tt B1 (Tt W2 X2))),fun w9 hw9=>rfl⟩
 refine Am<|Ae<|RG.nl [vI 0] F0 fun s4 q0 B2 Y2=>Bl [vI 0] B2 .hd (o1 I) fun Z0 A0 Z2=>Aa<|Ai<|Ae<|AG I ((A0.memA .t3) 0 _ I) ?_
 have Y0:=Tt K0 (Tt Y2 Z2)
 refine Ac (Bf (xs:=a0) underlying101 I (AB h0_0 Y0))<|AG I ((A0.memA .t1) 0 _ I)<|Ac (FV.leq (i:=((a0.length:Nat):Int)) (j:=a2) I I)<|Aa<|AO I h (fun d2 h=>?_) (fun d2 h=>?_)
 refine Ae<|AG I ((A0.memA .t2) 0 _ I)<|jE (bd 53) I (e1 I) (fun w9 hw9=>Calls.gives (cA_c n (A0.hL hL hw9) a1) fun (w8:World) (u8:Vc) ⟨b0_,hu_,s_⟩=>(⟨b0_,hu_,s_.from hw9⟩:∃ b0:Nat,u8=Value.func (.func 87) #[] #[vP b0]/\St Z0 w8 [.cells b0 [vU a1] 44])) I fun u4 g4 W3 ⟨b0,B3,P1⟩=>?_
 subst B3
 refine Aa<|Aq<|MX.rangeP (lb:=[vP b0]) I (gM A0 P1) I (bd 87) func87 I I I fun v4 B0 u0 C0 V3 A1 b3 G3 H1 Z3=>Ae<|AG I ((A1.memA .t2) 0 _ I)<|Af I<|Aa<|Aq<|MX.lo (α:=Ua×Int×(Lb ((Ua×Ua)×Int))) (fun ⟨d0,s0,g0⟩=>[(0,.func (.yield B0) #[] #[]),(1,vP b0),(3,vU d0)]) (fun ⟨d0,s0,g0⟩=>(.obj B0 (lpO C0 .ready none)::.obj u0 (.deferred (some []))::.cells b0 [vU a1] 44::.cells q0 [vI s0] 3::.cells p0 [vI a2] 3::.cells k0 [vU a1] 44::.cells j0 [v0_0] 101::.cells pf [vI nn,vf,.func (.func 54) #[] #[vP pd,vP pq]] 100::.cells pq [vP pf] 91::.cells pd [.func (.func 52) #[] #[vP pc,vP pq,vP pd]] 136::.cells pc [.map (some pm)] 135::.obj pm (ab (g0:Lb ((Ua×Ua)×Int)))::T9)) (fun ⟨d0,s0,g0⟩=>(d0,s0,g0)) (a1,0,D0) h A1 ?_
 rintro P3 ⟨d0,s0,g0⟩ x4 d1 j1 V0 h
 unfold ay_l1 at h
 try dsimp only at h
 refine Ai<|Aq<|Ae<|Ab I<|Ab I<|RG.yieldP (fd:=54) (vs:=[vU d0]) .plain I (e1 I) j1 .hd G3 I I I fun U3 G1 Y3=>Ak<|Af I<|Aa<|MX.begin j1 .hd fun M0 t0 W0=>Aq<|Ai<|du 11 fun x0 z0=>Rx 0 1550 x0 I z0 (Ay I ((t0.memA .t8) 0 _ I))<|Rv 1 x0 I z0 (fun _=>Bw I)<|Rv 2 x0 I z0 (fun _=>Bv 1 I)<|Rx 3 1536 x0 I z0 (Ay I ((t0.memA .t7) 1 _ I))<|Rx 4 1888 x0 I z0 (Ay I ((t0.memA .t6) 0 _ I))<|bk h fun b1 C3 h=>?_
 have H0:=Tt Y0 (Tt (lG A0 P1) (Tt b3 (Tt V0 W0)))
 have I1:=AB h0_0 H0
 obtain ⟨K3,Q3,c3,k3,g2,x3,q3⟩:=Bq I1 C3
 have d3:g2=[vU b1]:=x3; subst d3
 refine Rv 5 x0 I z0 (fun _=>AU 1 0 I c3 I I k3)<|Rx 6 1792 x0 I z0 (Ay I (q3 0 _ I))<|Rv 7 x0 I z0 (fun _=>Ah I)<|Rv 8 x0 I z0 (fun _=>FV.orU (a:=b1) (b:=d0) I I)<|bk h fun J3 D3 h=>?_
 obtain ⟨M3,R3,g3,p3,j2,y3,s3⟩:=Bq (AB hf H0) D3
 have j3:j2=[.bool J3]:=y3; subst j3
 refine Rv 9 x0 I z0 (fun _=>AU 1 ((b1|||d0).toNat) I g3 I I p3)<|Rx 10 0 x0 I z0 (Ay I (s3 0 _ I))<|AQ (dk x0)<|MX.ifb I h (fun Y1 h=>?_) (fun Y1 h=>?_)
 refine du 12 fun c0 v0=>Rx 1 28700 c0 I v0 (Ay I ((t0.memA .t8) 0 _ I))<|Rv 2 c0 I v0 (fun _=>Bw I)<|Rv 3 c0 I v0 (fun _=>Bv 2 I)<|Rx 4 28672 c0 I v0 (Ay I ((t0.memA .t7) 2 _ I))<|Rx 5 28736 c0 I v0 (Ay I ((t0.memA .t6) 0 _ I))<|bk h fun z4 E3 h=>RD.valE (i:=6) (m' :=126) (W:=28672) (tk c0) I v0 .plain I (FV.cutL (α:=Ua) E3 I I I1 ⟨_,I⟩ I) fun c4 K1=>Rx 7 29184 c0 I v0 (Ay I ((t0.memA .t5) 0 _ I))<|Rv 8 c0 I v0 (fun _=>Ah I)<|Rv 9 c0 I v0 (fun _=>FV.andNotU (a:=a1) (b:=d0) I I)<|Rx 10 30720 c0 I v0 (Ay I ((t0.memA .t4) 0 _ I))<|bk h fun b4 z3 h=>Rv 11 c0 I v0 (fun _=>FV.subc (i:=a2) (j:=1) I I z3)<|bk h fun y0 M1 h=>RD.mo (α:=Unit) (fun ()=>[(9,vP q0),(36,vI s0),(48,vI y0.2)]) (fun ()=>(.cells pf [vI nn,vf,.func (.func 54) #[] #[vP pd,vP pq]] 100::.cells pq [vP pf] 91::.cells pd [.func (.func 52) #[] #[vP pc,vP pq,vP pd]] 136::.cells pc [.map (some pm)] 135::.obj pm (ab (y0.1:Lb ((Ua×Ua)×Int)))::.obj B0 (lpO C0 .busy none)::.obj u0 (.deferred (some []))::.cells b0 [vU a1] 44::.cells q0 [vI s0] 3::.cells p0 [vI a2] 3::.cells k0 [vU a1] 44::.cells j0 [v0_0] 101::T9)) t0 2 8191 ?_ ?_
 rintro ⟨⟩ y4 s2 C1
 try dsimp only
 refine bk h fun E0 A3 h=>Bb (i:=13) (rk c0) (Bg (m' :=16383) (sk c0) I .plain I (Bu (i:=s0) (j:=y0.2) I I A3) ?_)
 refine BC 14 32767 c0 I I .plain (Az (news:=[vI E0]) s2 .t8 I I I I I I (o1 I)) fun p4 u2 D1=>AQ (dk c0)<|Ao<|MX.roundEnd G1 u2 .t5 fun U1 J0 E1=>Ac (BV I)<|Ab I<|Au (Ah I)<|Au (FV.eqlU (a:=d0) (b:=(0:Ua)) I I)<|Bo I I<|Aa<|AO I h (fun b2 h=>?_) (fun b2 h=>?_)
 refine Ap rfl<|Aw (u:=.tuple #[]) H1 func87 rfl .nil rfl<|MX.endRange0 J0 .t5 (by intro h9; cases h9) fun V1 k1 F2=>?_
 obtain ⟨p1,G2⟩:=qC k1 (qH (qH (qH (qH (qH (qI (qI (qI (qI (qI (qI (.drop .hd .rest))))))))))))
 refine Ao<|Ae<|AG I ((p1.memA .t7) 0 _ I)<|Af I<|Aa<|Ap I<|RT.take p1 .t5 fun P0 q1 H2=>?_
 obtain ⟨s1,I2⟩:=qC q1 (qH (qH (qH (qH (qH (qI (qI (qI (qI (qI (.drop .hd .rest)))))))))))
 refine AV hb0 func54 I I ?_
 obtain ⟨v2,J2⟩:=qC s1 (qH (qH (qH (qH (qH (.drop .hd (.drop .hd (.drop .hd (.drop .hd (.drop .hd .rest))))))))))
 cases h
 exact ⟨v2,(Tt H0 (Tt C1 (Tt D1 (Tt E1 (Tt F2 (Tt G2 (Tt H2 (Tt I2 J2)))))))),fun w9 hw9=>rfl⟩
 refine Am<|Ao<|Ak<|Ab I<|Ac (FV.subU (a:=d0) (b:=(1:Ua)) I I)<|AG I ((J0.memA .t7) 0 _ I)<|Ac (Br (a:=d0-(1:Ua)) (b:=a1) I I)<|Af I<|Aa ?_
 obtain ⟨x2,K2⟩:=qC J0 (.one .t5 (.one .t5 (.one .t5 (.one .t5 (.one .t5 (.one .t5 (.one .t5 (qH (qH (qH (qH (qH .rest))))))))))))
 exact d1 ((d0-(1:Ua))&&&a1,E0,y0.1) x2 (Tt V0 (Tt W0 (Tt C1 (Tt D1 (Tt E1 K2))))) h
 intro g1
 refine Bc [0,12] (rk c0) ⟨?_,?_,trivial⟩
 refine Bg (m' :=4095) (sk c0) I .plain I (Ay I ((t0.memA .t3) 0 _ I)) ?_
 obtain ⟨R0,G0⟩:=qC t0 (.one .t7 (.one .t7 (.one .t7 (.one .t7 (.one .t7 (qH (qH (qH (qH (qH (qH (qH .rest))))))))))))
 have u3:=AB K1 G0
 have v3:=AB hf (Tt H0 G0)
 refine Bb (i:=12) (rk c0) (RO.callL (m' :=8191) (fst:=[]) (cap:=[vP pd,vP pq]) (sk c0) I I .plain (bd 54) I (e3 I I I) (fun w9 hw9=>hrec _ hL ft g0 (R0.agree hw9) (Ax v3 hw9) (Ax u3 hw9) (a1&&&~~~d0) M1) I (fun I3 H3 I0 X0 hu_=>?_))
 subst hu_
 exact g1 () I0 (Tt G0 X0)
 obtain ⟨R0,G0⟩:=qC t0 (.one .t7 (.one .t7 (.one .t7 (.one .t7 (.one .t7 (qH (qH (qH (qH (qH (qH (qH .rest))))))))))))
 refine RO.callL (m' :=8190) (fst:=[]) (cap:=[vP pd,vP pq]) (sk c0) I I .plain (bd 54) I (e3 I I I) (fun w9 hw9=>hrec _ hL ft g0 (R0.agree hw9) (Ax (AB hf (Tt H0 G0)) hw9) (Ax (AB K1 G0) hw9) (a1&&&~~~d0) M1) I fun I3 H3 I0 X0 hu_=>?_
 subst hu_
 refine Rx 0 24576 c0 I v0 (Ay I ((I0.memA .t8) 0 _ I))<|g1 () I0 (Tt G0 X0)
 refine Am<|Ao<|MX.roundEnd G1 t0 .hd fun q4 U0 F1=>Ac (BV I)<|Ab I<|Au (Ah I)<|Au (FV.eqlU (a:=d0) (b:=(0:Ua)) I I)<|Bo I I<|Aa<|AO I h (fun c2 h=>?_) (fun c2 h=>?_)
 refine Ap rfl<|Aw (u:=.tuple #[]) H1 func87 rfl .nil rfl<|MX.endRange0 U0 .hd (by intro h9; cases h9) fun W1 u1 M2=>?_
 obtain ⟨v1,P2⟩:=qC u1 (qI (qI (qI (qI (qI (qI (qI (qI (qI (qI (qI (.drop .hd .rest))))))))))))
 refine Ao<|Ae<|AG I ((v1.memA .t2) 0 _ I)<|Af I<|Aa<|Ap I<|RT.take v1 .hd fun Q0 x1 Q2=>?_
 obtain ⟨y1,R2⟩:=qC x1 (qI (qI (qI (qI (qI (qI (qI (qI (qI (qI (.drop .hd .rest)))))))))))
 refine AV hb0 func54 I I ?_
 obtain ⟨y2,U2⟩:=qC y1 (.one .t5 (.one .t5 (.one .t5 (.one .t5 (.one .t5 (.drop .hd (.drop .hd (.drop .hd (.drop .hd (.drop .hd .rest))))))))))
 cases h
 exact ⟨y2,(Tt H0 (Tt F1 (Tt M2 (Tt P2 (Tt Q2 (Tt R2 U2)))))),fun w9 hw9=>rfl⟩
 refine Am<|Ao<|Ak<|Ab I<|Ac (FV.subU (a:=d0) (b:=(1:Ua)) I I)<|AG I ((U0.memA .t2) 0 _ I)<|Ac (Br (a:=d0-(1:Ua)) (b:=a1) I I)<|Af I<|Aa<|d1 ((d0-(1:Ua))&&&a1,s0,g0) U0 (Tt V0 (Tt W0 F1)) h
 refine Am<|Ae<|AG I ((A0.memA .hd) 0 _ I)<|Af I<|Aa<|Ap I<|AV hb0 func54 I I ?_
 obtain ⟨z2,V2⟩:=qC A0 (.one .t4 (.one .t4 (.one .t4 (.one .t4 (.one .t4 (.drop .hd (.drop .hd (.drop .hd (.drop .hd .rest)))))))))
 cases h
 exact ⟨z2,(Tt Y0 V2),fun w9 hw9=>rfl⟩
def aD (n:Nat):Nat->(Lb Bool)->(Lb ((Ua×Ua)×Int))->(Lb Ua)->Ua->Int->Oa ((Lb ((Ua×Ua)×Int))×Int)
  | 0=>fun _ _ _ _ _=>none
  | k+1=>aV n (aD n k)
def ay_p (n:Nat):(Lb Bool)->(Lb ((Ua×Ua)×Int))->(Lb Ua)->Ua->Int->Oa ((Lb ((Ua×Ua)×Int))×Int):=aD n n
theorem cV (n:Nat):∀ (k:Nat) (L:Lb Nat) {w0 w:World} {T9:Lb Ob} (_:∀ b∈L,b<w0.heap.size) {pf pq pd pc pm:Nat} {vf:Vc} {nn:Int} (ft:Lb Bool) (D0:Lb ((Ua×Ua)×Int)) (_hS0:St w0 w (.cells pf [vI nn,vf,.func (.func 54) #[] #[vP pd,vP pq]] 100::.cells pq [vP pf] 91::.cells pd [.func (.func 52) #[] #[vP pc,vP pq,vP pd]] 136::.cells pc [.map (some pm)] 135::.obj pm (ab (D0:Lb ((Ua×Ua)×Int)))::T9)) (_hf:Rep.R w (bl (.cells pf [vI nn,vf,.func (.func 54) #[] #[vP pd,vP pq]] 100::.cells pq [vP pf] 91::.cells pd [.func (.func 52) #[] #[vP pc,vP pq,vP pd]] 136::.cells pc [.map (some pm)] 135::.obj pm (ab (D0:Lb ((Ua×Ua)×Int)))::T9)++L) [vf] ft) {a0:Lb Ua} {v0_0:Vc} (_h0_0:Rep.R w (bl (.cells pf [vI nn,vf,.func (.func 54) #[] #[vP pd,vP pq]] 100::.cells pq [vP pf] 91::.cells pd [.func (.func 52) #[] #[vP pc,vP pq,vP pd]] 136::.cells pc [.map (some pm)] 135::.obj pm (ab (D0:Lb ((Ua×Ua)×Int)))::T9)++L) [v0_0] a0) (a1:Ua) {a2:Int} {r:(Lb ((Ua×Ua)×Int))×Int} (_h:aD n k ft D0 a0 a1 a2=some r),Calls Tryz.prog 54 #[v0_0,vU a1,vI a2,vP pd,vP pq] w (eP w0 w (.cells pf [vI nn,vf,.func (.func 54) #[] #[vP pd,vP pq]] 100::.cells pq [vP pf] 91::.cells pd [.func (.func 52) #[] #[vP pc,vP pq,vP pd]] 136::.cells pc [.map (some pm)] 135::.obj pm (ab (D0:Lb ((Ua×Ua)×Int)))::T9) (.cells pf [vI nn,vf,.func (.func 54) #[] #[vP pd,vP pq]] 100::.cells pq [vP pf] 91::.cells pd [.func (.func 52) #[] #[vP pc,vP pq,vP pd]] 136::.cells pc [.map (some pm)] 135::.obj pm (ab (r.1:Lb ((Ua×Ua)×Int)))::T9) (fun _ u=>u=vI r.2))
  | 0=>by
    intros
    rename_i h
    exact Calls.none_r h
  | k+1=>fW n (aD n k) (cV n k)
theorem ay_c (n:Nat):∀ (L:Lb Nat) {w0 w:World} {T9:Lb Ob} (_:∀ b∈L,b<w0.heap.size) {pf pq pd pc pm:Nat} {vf:Vc} {nn:Int} (ft:Lb Bool) (D0:Lb ((Ua×Ua)×Int)) (_hS0:St w0 w (.cells pf [vI nn,vf,.func (.func 54) #[] #[vP pd,vP pq]] 100::.cells pq [vP pf] 91::.cells pd [.func (.func 52) #[] #[vP pc,vP pq,vP pd]] 136::.cells pc [.map (some pm)] 135::.obj pm (ab (D0:Lb ((Ua×Ua)×Int)))::T9)) (_hf:Rep.R w (bl (.cells pf [vI nn,vf,.func (.func 54) #[] #[vP pd,vP pq]] 100::.cells pq [vP pf] 91::.cells pd [.func (.func 52) #[] #[vP pc,vP pq,vP pd]] 136::.cells pc [.map (some pm)] 135::.obj pm (ab (D0:Lb ((Ua×Ua)×Int)))::T9)++L) [vf] ft) {a0:Lb Ua} {v0_0:Vc} (_h0_0:Rep.R w (bl (.cells pf [vI nn,vf,.func (.func 54) #[] #[vP pd,vP pq]] 100::.cells pq [vP pf] 91::.cells pd [.func (.func 52) #[] #[vP pc,vP pq,vP pd]] 136::.cells pc [.map (some pm)] 135::.obj pm (ab (D0:Lb ((Ua×Ua)×Int)))::T9)++L) [v0_0] a0) (a1:Ua) {a2:Int} {r:(Lb ((Ua×Ua)×Int))×Int} (_h:ay_p n ft D0 a0 a1 a2=some r),Calls Tryz.prog 54 #[v0_0,vU a1,vI a2,vP pd,vP pq] w (eP w0 w (.cells pf [vI nn,vf,.func (.func 54) #[] #[vP pd,vP pq]] 100::.cells pq [vP pf] 91::.cells pd [.func (.func 52) #[] #[vP pc,vP pq,vP pd]] 136::.cells pc [.map (some pm)] 135::.obj pm (ab (D0:Lb ((Ua×Ua)×Int)))::T9) (.cells pf [vI nn,vf,.func (.func 54) #[] #[vP pd,vP pq]] 100::.cells pq [vP pf] 91::.cells pd [.func (.func 52) #[] #[vP pc,vP pq,vP pd]] 136::.cells pc [.map (some pm)] 135::.obj pm (ab (r.1:Lb ((Ua×Ua)×Int)))::T9) (fun _ u=>u=vI r.2)):=cV n n
theorem el97:ElT Tryz.prog 97 4 (Rep.size Bool) 1 (.bool false) [.bool false]:=⟨underlying97,by kernel_rfl,rfl,rfl,rfl,rfl⟩
def au_l1 (n:Nat) (k0:Lb Ua) (g0:Int) (j0:Ua×Ua->Oa Ua):Ua×Ua->Oa Ua
  | (b0,c0)=>(if c0=(0:Ua) then some b0 else (aj_p n c0).bind fun p0=>(idx k0 p0).bind fun d0=>j0 (b0|||((d0&&&(ac g0))&&&~~~b0),(c0&&&(c0-(1:Ua)))|||((d0&&&(ac g0))&&&~~~b0)))
def au_l2 (n:Nat) (a0:Tc) (a1:Td) (D0:Lb Ua) (g0:Int×(Lb Int)×(Lb Bool)->Oa (Lb Bool)):Int×(Lb Int)×(Lb Bool)->Oa (Lb Bool)
  | (b0,j0,c0)=>(bb a0.fN).bind fun q0=>(if b0<(shlS 1 q0) then (bA_p n (ac b0)).bind fun k0=>(chk (b0-1)).bind fun u0=>(idx j0 (andI b0 u0)).bind fun B0=>(idx a1.fu k0).bind fun C0=>(chk (B0+C0)).bind fun v0=>(idx j0 b0).bind fun _x2459=>(put j0 ((b0.toNat:Nat):Int) v0).bind fun d0=>(idx d0 b0).bind fun p0=>(if p0<a1.fm then (chk (b0+1)).bind fun x0=>g0 (x0,d0,c0) else (if a1.fh<p0 then (chk (b0+1)).bind fun y0=>g0 (y0,d0,c0) else (bb k0).bind fun s0=>(bb k0).bind fun t0=>Option.bind (ah (au_l1 n D0 b0) n (shlU (1:Ua) s0,shlU (1:Ua) t0)) (fun A0=>(idx c0 b0).bind fun _x2540=>(put c0 ((b0.toNat:Nat):Int) (decide (A0=(ac b0)))).bind fun E0=>(chk (b0+1)).bind fun z0=>g0 (z0,d0,E0)))) else some c0)
def au_l3 (_n:Nat) (a0:Tc) (j0:Nat×(Lb Ua)->Oa (Lb Ua)):Nat×(Lb Ua)->Oa (Lb Ua)
  | (c0,d0)=>(if c0<a0.fo.length then (a0.fo[c0]?).bind fun b0=>(idx d0 b0.1).bind fun q0=>(bb b0.2).bind fun k0=>(put d0 ((b0.1.toNat:Nat):Int) (q0|||(shlU (1:Ua) k0))).bind fun g0=>(idx g0 b0.2).bind fun s0=>(bb b0.1).bind fun p0=>(put g0 ((b0.2.toNat:Nat):Int) (s0|||(shlU (1:Ua) p0))).bind fun t0=>j0 (c0+1,t0) else some d0)
def au_p (n:Nat) (a0:Tc) (a1:Td):Oa (Int×Lb Bool):=
  (bh_p n a0 a1).bind fun q0=>(if q0=0 then (bb a0.fN).bind fun c0=>(mk (shlS 1 c0) false).bind fun p0=>(mk a0.fN (0:Ua)).bind fun d0=>Option.bind (ah (au_l3 n a0) n (0,d0)) (fun g0=>(bb a0.fN).bind fun b0=>(mk (shlS 1 b0) (0:Int)).bind fun j0=>Option.bind (ah (au_l2 n a0 a1 g0) n (1,j0,p0)) (fun k0=>some (a0.fN,k0))) else none)
theorem au_c (n:Nat) {L w} (hL:hl L w) (a0:Tc) {v0_1:Vc} (h0_1:Rep.R w L [v0_1] a0.fo) (a1:Td) {v1_0:Vc} (h1_0:Rep.R w L [v1_0] a1.fu) (hG0:Glob 0 tab0 w) {r:Int×Lb Bool} (h:au_p n a0 a1=some r) :
 Cl 29 #[.agg #[vI a0.fN,v0_1],.agg #[v1_0,vI a1.fm,vI a1.fh,vI a1.fc]] w (aj w fun w' u=>∃ (pf pq pd pc pm:Nat) (vf:Vc),u=.tuple #[vP pf,vI 0]/\St w w' [.cells pf [vI r.1,vf,.func (.func 54) #[] #[vP pd,vP pq]] 100,.cells pq [vP pf] 91,.cells pd [.func (.func 52) #[] #[vP pc,vP pq,vP pd]] 136,.cells pc [.map (some pm)] 135,.obj pm (ab ([]:Lb ((Ua×Ua)×Int)))]/\Rep.R w' (bl [.cells pf [vI r.1,vf,.func (.func 54) #[] #[vP pd,vP pq]] 100,.cells pq [vP pf] 91,.cells pd [.func (.func 52) #[] #[vP pc,vP pq,vP pd]] 136,.cells pc [.map (some pm)] 135,.obj pm (ab ([]:Lb ((Ua×Ua)×Int)))]++L) [vf] r.2):=by
 unfold au_p at h
 refine AJ func29 I I I fun _ cs0 hb0=>Ae<|RG.bx (AI w) I I fun X8 D0 G4 H8=>RG.bx G4 I I fun Y8 E0 J0 I8=>Af I<|Af I<|Aa<|Ai<|Ae<|Ac (AP I (J0.memA .t1))<|Ac (AP I (J0.memA .hd))<|bk h fun H3 D7 h=>Bz (vI H3) (bd 49) I (e2 I I) (fun w9 hw9=>bh_c n (J0.hL0 hL hw9) a0 (J0.k0 h0_1 hw9) a1 (J0.k0 h1_0 hw9) D7) I<|Af I<|Aa<|Ae<|Ab I<|Ac (FV.neq (i:=H3) (j:=0) I I)<|Aa<|MX.ifn I h (fun g4 h=>?_) (fun g4 h=>?_)
 refine Am<|Ai<|du 9 fun s0 j1=>Rv 0 s0 I j1 (fun _=>Bv 0 I)<|Rx 1 704 s0 I j1 (Ay I ((J0.memA .t1) 0 _ I))<|Rv 2 s0 I j1 (fun _=>Bv 0 I)<|Rx 3 752 s0 I j1 (Ay I ((J0.memA .t1) 0 _ I))<|bk h fun q0 d6 h=>Rv 4 s0 I j1 (fun _=>FV.shlSI (i:=1) (q:=a0.fN) I I d6)<|bk h fun Z0 V1 h=>RD.mf (α:=Nat×Nat×Vc×(Lb Vc)) (fun ⟨g0,j0,c0,V0⟩=>[(2,vP D0),(3,vP E0),(33,vP j0),(7,vP g0)]) (fun ⟨g0,j0,c0,V0⟩=>[.cells g0 [.pointer none] 91,.cells j0 [vI a0.fN,c0,.nilFunc] 100,rr w 4 Bool c0 Z0.length V0,.cells E0 [v1_0,vI a1.fm,vI a1.fh,vI a1.fc] 35,.cells D0 [vI a0.fN,v0_1] 32]) (fun ⟨g0,j0,c0,V0⟩ z3=>Cells z3 (bl [.cells g0 [.pointer none] 91,.cells j0 [vI a0.fN,c0,.nilFunc] 100,rr w 4 Bool c0 Z0.length V0,.cells E0 [v1_0,vI a1.fm,vI a1.fh,vI a1.fc] 35,.cells D0 [vI a0.fN,v0_1] 32]++L) V0 (Z0:Lb Bool)) J0 1 511 ?_ ?_
 rintro ⟨g0,j0,c0,V0⟩ z3 H4 J8 u5
 try dsimp only
 refine BC 9 1023 s0 I I .plain (Az (news:=[vP j0]) H4 .hd I I I I I I (o1 I)) fun Z8 y2 X4=>AQ (dk s0)<|Ae<|Bh 0 I<|AG I ((y2.memA .t4) 0 _ I)<|bk h fun F3 s3 h=>Av .plain I (Does.mk (α:=Ua) s3 y2 bT I) fun b9 U0 G1 Y4=>Af I<|Aa<|Ai<|Ae<|Bh 1 I<|AG I ((G1.memA .t5) 1 _ I) ?_
 have g3:=AH h0_1 G1
 have M8:=AY g3
 refine Ac (Bf (xs:=a0.fo) underlying30 I g3)<|Ab I<|Aa<|Aq ?_
 obtain ⟨R8,z6,M5⟩:=ai h
 refine MX.lf (α:=Nat×(Lb Ua)×(Lb Vc)) (fun ⟨M0,F0,G0⟩=>[(2,vP D0),(3,vP E0),(7,vP g0),(8,(.slice (some ⟨U0,0,none⟩) a0.fN.toNat a0.fN.toNat)),(38,v0_1),(39,vn a0.fo.length),(40,vn M0)]) (fun ⟨M0,F0,G0⟩=>[rr w 44 Ua (.slice (some ⟨U0,0,none⟩) a0.fN.toNat a0.fN.toNat) F0.length G0,.cells g0 [vP j0] 91,.cells j0 [vI a0.fN,c0,.nilFunc] 100,rr w 4 Bool c0 Z0.length V0,.cells E0 [v1_0,vI a1.fm,vI a1.fh,vI a1.fc] 35,.cells D0 [vI a0.fN,v0_1] 32]) (fun ⟨M0,F0,G0⟩ A3=>Cells A3 (bl [rr w 44 Ua (.slice (some ⟨U0,0,none⟩) a0.fN.toNat a0.fN.toNat) F0.length G0,.cells g0 [vP j0] 91,.cells j0 [vI a0.fN,c0,.nilFunc] 100,rr w 4 Bool c0 Z0.length V0,.cells E0 [v1_0,vI a1.fm,vI a1.fh,vI a1.fc] 35,.cells D0 [vI a0.fN,v0_1] 32]++L) G0 F0) (fun ⟨M0,F0,G0⟩=>(M0,F0)) (0,F3,(List.replicate a0.fN.toNat [vW 0]).flatten) z6 G1 (AD (cs:=(List.replicate a0.fN.toNat [vW 0]).flatten) (xs:=F3) G1 L (Cells.mk s3 I)) ?_
 rintro b8 ⟨M0,F0,G0⟩ A3 E4 H1 D2 K2 h
 unfold au_l3 at h
 try dsimp only at h
 refine Ae<|Ac (Bp (i:=M0) (j:=a0.fo.length) I I)<|Aa<|Ai<|AO I h (fun d4 h=>?_) (fun d4 h=>?_)
 refine Am<|Ai<|Aq<|Ae<|bk h fun R0 W6 h=>?_
 obtain ⟨Y7,j8,y5,Y5,F8,C6,q6⟩:=Bq (AH h0_1 H1) W6
 obtain rfl:=dx C6
 refine Ac (AU 2 M0 I y5 I I Y5)<|Ac (AP I q6)<|RG.nl [vI 0,vI 0] H1 fun c9 g8 I4 E2=>Bl [vI R0.1,vI R0.2] I4 .hd (aC I) fun d9 B1 F2=>Aa<|Ai<|du 10 fun z0 P0=>Rv 0 z0 I P0 (fun _=>Ah I)<|Rv 1 z0 I P0 (fun _=>AC (m:=1) (k:=0) (len:=2) I I I I (by omega))<|Rx 2 1816 z0 I P0 (Ay I ((B1.memA .hd) 0 _ I))<|bk h fun B3 X6 h=>?_
 obtain ⟨W2,Y6⟩:=ax X6
 have j3:=Ar K2 (Tt E2 F2)
 obtain ⟨J3,k8,Q1,p2,s4,D6,s6⟩:=BF (α:=Ua) B1 .t1 j3 Y6
 obtain ⟨V3,p8,Q2⟩:=Bd (α:=Ua) B1 .t1 p2
 obtain rfl:J3=⟨V3,0,none⟩:=by rw [Q2] at Q1; cases Q1; rfl
 have z5:s4=[vU B3]:=D6; subst z5
 refine Rv 3 z0 I P0 (fun _=>AU 1 (R0.1.toNat) I Q1 I W2 p2)<|Rx 4 1792 z0 I P0 (Ay I (s6 0 _ I))<|Rv 5 z0 I P0 (fun _=>AC (m:=1) (k:=1) (len:=2) I I I I (by omega))<|Rx 6 1920 z0 I P0 (Ay I ((B1.memA .hd) 1 _ I))<|bk h fun G7 Z5 h=>Rv 7 z0 I P0 (fun _=>FV.shlI (a:=(1:Ua)) (i:=R0.2) I I Z5)<|Rv 8 z0 I P0 (fun _=>FV.orU (a:=B3) (b:=shlU (1:Ua) G7) I I)<|Rv 9 z0 I P0 (fun _=>AU 1 (R0.1.toNat) I Q1 I W2 p2)<|bk h fun A9 z7 h=>Bb (i:=10) (rk z0) (RO.acts (m' :=2047) (sk z0) I I .plain (BE (α:=Ua) (i:=R0.1.toNat) z7 B1 Q2 (fun _=>.t1) j3 I I I I I I) (fun g9 ⟨G8,C1,Z4,M2⟩=>?_))
 refine AQ (dk z0)<|du 10 fun A0 Q0=>Rv 0 A0 I Q0 (fun _=>Ah I)<|Rv 1 A0 I Q0 (fun _=>AC (m:=1) (k:=1) (len:=2) I I I I (by omega))<|Rx 2 1816 A0 I Q0 (Ay I ((C1.memA .hd) 1 _ I))<|bk h fun C3 Z6 h=>?_
 obtain ⟨X2,b7⟩:=ax Z6
 obtain ⟨K3,q8,R1,q2,u4,E6,u6⟩:=BF (α:=Ua) C1 .t1 M2 b7
 obtain ⟨W3,s8,R2⟩:=Bd (α:=Ua) C1 .t1 q2
 obtain rfl:K3=⟨W3,0,none⟩:=by rw [R2] at R1; cases R1; rfl
 have A5:u4=[vU C3]:=E6; subst A5
 refine Rv 3 A0 I Q0 (fun _=>AU 1 (R0.2.toNat) I R1 I X2 q2)<|Rx 4 1792 A0 I Q0 (Ay I (u6 0 _ I))<|Rv 5 A0 I Q0 (fun _=>AC (m:=1) (k:=0) (len:=2) I I I I (by omega))<|Rx 6 1920 A0 I Q0 (Ay I ((C1.memA .hd) 0 _ I))<|bk h fun H7 b6 h=>Rv 7 A0 I Q0 (fun _=>FV.shlI (a:=(1:Ua)) (i:=R0.1) I I b6)<|Rv 8 A0 I Q0 (fun _=>FV.orU (a:=C3) (b:=shlU (1:Ua) H7) I I)<|Rv 9 A0 I Q0 (fun _=>AU 1 (R0.2.toNat) I R1 I X2 q2)<|bk h fun W7 A7 h=>Bb (i:=10) (rk A0) (RO.acts (m' :=2047) (sk A0) I I .plain (BE (α:=Ua) (i:=R0.2.toNat) A7 C1 R2 (fun _=>.t1) M2 I I I I I I) (fun j9 ⟨v4,J4,b5,v5⟩=>?_))
 refine AQ (dk A0)<|Ao<|Ak<|Ac (AW (i:=M0) (j:=1) I I (by omega))<|Ab I<|Aa ?_
 obtain ⟨K4,G2⟩:=AX J4 .d1
 exact E4 (M0+1,W7,v4) K4 (Tt D2 (Tt E2 (Tt F2 (Tt Z4 (Tt b5 G2))))) (Ar v5 G2) h
 refine AT I ?_
 have h:=M5 _ h
 try dsimp only at h
 refine Ae<|Bh 0 I<|AG I ((H1.memA .t5) 0 _ I)<|bk h fun x0 c6 h=>Ac (FV.shlSI (i:=1) (q:=a0.fN) I I c6)<|bk h fun G3 u3 h=>Av .plain I (Does.mk (α:=Int) u3 H1 aA I) fun k9 q1 z2 H2=>Af I<|Aa<|Ai<|Ae<|Af I<|Aa<|Aq ?_
 obtain ⟨U8,A6,P5⟩:=ai h
 refine MX.lf (α:=Int×(Lb Int)×(Lb Bool)×(Lb Vc)×(Lb Vc)) (fun ⟨b0,W0,C0,Y0,H0⟩=>[(2,vP D0),(3,vP E0),(7,vP g0),(8,(.slice (some ⟨U0,0,none⟩) a0.fN.toNat a0.fN.toNat)),(11,(.slice (some ⟨q1,0,none⟩) (shlS 1 x0).toNat (shlS 1 x0).toNat)),(12,vI b0)]) (fun ⟨b0,W0,C0,Y0,H0⟩=>[rr w 3 Int (.slice (some ⟨q1,0,none⟩) (shlS 1 x0).toNat (shlS 1 x0).toNat) W0.length Y0,rr w 44 Ua (.slice (some ⟨U0,0,none⟩) a0.fN.toNat a0.fN.toNat) F0.length G0,.cells g0 [vP j0] 91,.cells j0 [vI a0.fN,c0,.nilFunc] 100,rr w 4 Bool c0 C0.length H0,.cells E0 [v1_0,vI a1.fm,vI a1.fh,vI a1.fc] 35,.cells D0 [vI a0.fN,v0_1] 32]) (fun ⟨b0,W0,C0,Y0,H0⟩ u2=>Cells u2 (bl [rr w 3 Int (.slice (some ⟨q1,0,none⟩) (shlS 1 x0).toNat (shlS 1 x0).toNat) W0.length Y0,rr w 44 Ua (.slice (some ⟨U0,0,none⟩) a0.fN.toNat a0.fN.toNat) F0.length G0,.cells g0 [vP j0] 91,.cells j0 [vI a0.fN,c0,.nilFunc] 100,rr w 4 Bool c0 C0.length H0,.cells E0 [v1_0,vI a1.fm,vI a1.fh,vI a1.fc] 35,.cells D0 [vI a0.fN,v0_1] 32]++L) Y0 W0/\Cells u2 (bl [rr w 3 Int (.slice (some ⟨q1,0,none⟩) (shlS 1 x0).toNat (shlS 1 x0).toNat) W0.length Y0,rr w 44 Ua (.slice (some ⟨U0,0,none⟩) a0.fN.toNat a0.fN.toNat) F0.length G0,.cells g0 [vP j0] 91,.cells j0 [vI a0.fN,c0,.nilFunc] 100,rr w 4 Bool c0 C0.length H0,.cells E0 [v1_0,vI a1.fm,vI a1.fh,vI a1.fc] 35,.cells D0 [vI a0.fN,v0_1] 32]++L) H0 C0) (fun ⟨b0,W0,C0,Y0,H0⟩=>(b0,W0,C0)) (1,G3,Z0,(List.replicate (shlS 1 x0).toNat [vI 0]).flatten,V0) A6 z2 ⟨(AD (cs:=(List.replicate (shlS 1 x0).toNat [vI 0]).flatten) (xs:=G3) z2 L (Cells.mk u3 I)),(Ar u5 (Tt X4 (Tt Y4 (Tt D2 H2))))⟩ ?_
 rintro c8 ⟨b0,W0,C0,Y0,H0⟩ u2 Z1 I0 J1 ⟨c2,M1⟩ h
 unfold au_l2 at h
 try dsimp only at h
 refine Ai<|Ae<|Ab I<|Bh 0 I<|AG I ((I0.memA .t6) 0 _ I)<|bk h fun I7 g6 h=>Ac (FV.shlSI (i:=1) (q:=a0.fN) I I g6)<|Ac (BR (i:=b0) (j:=shlS 1 I7) I I)<|Aa<|AO I h (fun j4 h=>?_) (fun j4 h=>?_)
 refine Am<|Ai<|Aq<|Ae<|Ab I<|Ac (FV.convU (i:=b0) underlying3 underlying106 I)<|bk h fun X1 E7 h=>Bz (vI X1) (bd 50) I (e1 I) (fun w9 hw9=>bA_c n (I0.hL0 hL hw9) (ac b0) (hG0.keep (I0.ag.trans hw9)) E7) I<|Af I<|Aa<|Ai<|du 16 fun t0 v0=>Rv 0 t0 I v0 (fun _=>Ah I)<|Rv 1 t0 I v0 (fun _=>Ah I)<|Rv 2 t0 I v0 (fun _=>Ah I)<|Rv 3 t0 I v0 (fun _=>Ah I)<|Rv 4 t0 I v0 (fun _=>Ah I)<|bk h fun v3 P6 h=>Rv 5 t0 I v0 (fun _=>FV.subc (i:=b0) (j:=1) I I P6)<|Rv 6 t0 I v0 (fun _=>FV.andI (i:=b0) (j:=v3) I I)<|bk h fun D3 c7 h=>?_
 obtain ⟨R5,d7⟩:=ax c7
 obtain ⟨M3,t8,d2,Z2,x4,F6,v6⟩:=BF (α:=Int) I0 .hd c2 d7
 obtain ⟨X3,u8,B5⟩:=Bd (α:=Int) I0 .hd Z2
 obtain rfl:M3=⟨X3,0,none⟩:=by rw [B5] at d2; cases d2; rfl
 have C5:x4=[vI D3]:=F6; subst C5
 refine Rv 7 t0 I v0 (fun _=>AU 1 ((andI b0 v3).toNat) I d2 I R5 Z2)<|Rx 8 114688 t0 I v0 (Ay I (v6 0 _ I))<|Rv 9 t0 I v0 (fun _=>Bv 0 I)<|Rx 10 126976 t0 I v0 (Ay I ((I0.memA .t5) 0 _ I))<|Rv 11 t0 I v0 (fun _=>Ah I)<|bk h fun E3 g7 h=>?_
 obtain ⟨U5,j7⟩:=ax g7
 obtain ⟨Z7,v8,D5,j6,y4,G6,x6⟩:=Bq (AH h1_0 I0) j7
 have E5:y4=[vI E3]:=G6; subst E5
 refine Rv 12 t0 I v0 (fun _=>AU 1 (X1.toNat) I D5 I U5 j6)<|Rx 13 114688 t0 I v0 (Ay I (x6 0 _ I))<|bk h fun W8 Q6 h=>Rv 14 t0 I v0 (fun _=>Bu (i:=D3) (j:=E3) I I Q6)<|bk h fun U7 k7 h=>?_
 obtain ⟨V5,p7⟩:=ax k7
 obtain ⟨P3,x8,g2,b3,z4,H6,P8⟩:=BF (α:=Int) I0 .hd c2 p7
 obtain ⟨Y3,y8,U2⟩:=Bd (α:=Int) I0 .hd b3
 obtain rfl:P3=⟨Y3,0,none⟩:=by rw [U2] at g2; cases g2; rfl
 have F5:z4=[vI U7]:=H6; subst F5
 refine Rv 15 t0 I v0 (fun _=>AU 1 (b0.toNat) I g2 I V5 b3)<|bk h fun W1 B7 h=>Bb (i:=16) (rk t0) (RO.acts (m' :=131071) (sk t0) I I .plain (BE (α:=Int) (i:=b0.toNat) B7 I0 U2 (fun _=>.hd) c2 I I I I I I) (fun p9 ⟨F1,b1,c1,P1⟩=>?_))
 refine AQ (dk t0)<|Ai<|Ai<|du 16 fun p0 u0=>Rv 0 p0 I u0 (fun _=>Ah I)<|Rv 1 p0 I u0 (fun _=>Ah I)<|bk h fun v2 q7 h=>?_
 obtain ⟨Y2,s7⟩:=ax q7
 obtain ⟨Q3,z8,U1,s2,A4,I6,k3⟩:=BF (α:=Int) b1 .hd P1 s7
 obtain ⟨Z3,A8,G5⟩:=Bd (α:=Int) b1 .hd s2
 obtain rfl:Q3=⟨Z3,0,none⟩:=by rw [G5] at U1; cases U1; rfl
 have H5:A4=[vI v2]:=I6; subst H5
 refine Rv 2 p0 I u0 (fun _=>AU 1 (b0.toNat) I U1 I Y2 s2)<|Rx 3 65472 p0 I u0 (Ay I (k3 0 _ I))<|Rv 4 p0 I u0 (fun _=>Bv 1 I)<|Rx 5 65472 p0 I u0 (Ay I ((b1.memA .t5) 1 _ I))<|Rv 6 p0 I u0 (fun _=>BR (i:=v2) (j:=a1.fm) I I)<|Rv 7 p0 I u0 (fun _=>Ah I)<|RD.ifd (s:=102) I h (fun k4 h=>?_) (fun k4 h=>?_)
 refine RD.offs 32767 1 [(8,103),(9,104),(10,105),(11,106),(12,107),(13,108),(14,109)] (F:=[(102,true)]) (U:=[]) p0 u0 (.cons I .nil) .nil ?_
 dsimp only [gl,List.map]
 refine Rv 15 p0 I u0 (fun _=>BJ I I)<|AQ (dk p0)<|Ba I<|AT I<|Ak<|Ab I<|bk h fun M7 R6 h=>Ac (Bu (i:=b0) (j:=1) I I R6)<|Af I<|Aa<|Z1 (M7,W1,C0,F1,H0) b1 (Tt J1 c1) ⟨P1,(Ar M1 c1)⟩ h
 refine RD.vP 8 511 p0 I u0 (.yes I I) (fun _=>Ah I) I<|RD.vP 9 1023 p0 I u0 (.yes I I) (fun _=>Ah I) I<|RD.vP 10 2047 p0 I u0 (.yes I I) (fun _=>AU 1 (b0.toNat) I U1 I Y2 s2) I<|RD.val (i:=11) (m' :=4095) (W:=49152) (tk p0) I u0 (.yes I I) (Ay I (k3 0 _ I)) I<|RD.vP 12 8191 p0 I u0 (.yes I I) (fun _=>Bv 2 I) I<|RD.val (i:=13) (m' :=16383) (W:=49152) (tk p0) I u0 (.yes I I) (Ay I ((b1.memA .t5) 2 _ I)) I<|RD.vP 14 32767 p0 I u0 (.yes I I) (fun _=>FV.gtr (i:=v2) (j:=a1.fh) I I) I<|Rv 15 p0 I u0 (fun _=>BS I I)<|AQ (dk p0)<|AO I h (fun p4 h=>?_) (fun p4 h=>?_)
 refine AT I<|Ak<|Ab I<|bk h fun P7 U6 h=>Ac (Bu (i:=b0) (j:=1) I I U6)<|Af I<|Aa<|Z1 (P7,W1,C0,F1,H0) b1 (Tt J1 c1) ⟨P1,(Ar M1 c1)⟩ h
 refine Am<|Ai<|du 6 fun k1 x1=>Rv 0 k1 I x1 (fun _=>Ah I)<|bk h fun J7 k6 h=>Rv 1 k1 I x1 (fun _=>FV.shlI (a:=(1:Ua)) (i:=X1) I I k6)<|Rv 2 k1 I x1 (fun _=>Ah I)<|bk h fun K7 p6 h=>Rv 3 k1 I x1 (fun _=>FV.shlI (a:=(1:Ua)) (i:=X1) I I p6)<|Rv 4 k1 I x1 (fun _=>Bi I)<|Rv 5 k1 I x1 (fun _=>Bi I)<|AQ (dk k1)<|Ai<|Aq ?_
 obtain ⟨V8,B6,Q5⟩:=ai h
 refine MX.lo (α:=Ua×Ua) (fun ⟨B0,y0⟩=>[(2,vP D0),(3,vP E0),(7,vP g0),(8,(.slice (some ⟨U0,0,none⟩) a0.fN.toNat a0.fN.toNat)),(11,(.slice (some ⟨q1,0,none⟩) (shlS 1 x0).toNat (shlS 1 x0).toNat)),(12,vI b0),(14,vU B0),(15,vU y0)]) (fun ⟨B0,y0⟩=>[rr w 3 Int (.slice (some ⟨q1,0,none⟩) (shlS 1 x0).toNat (shlS 1 x0).toNat) W1.length F1,rr w 44 Ua (.slice (some ⟨U0,0,none⟩) a0.fN.toNat a0.fN.toNat) F0.length G0,.cells g0 [vP j0] 91,.cells j0 [vI a0.fN,c0,.nilFunc] 100,rr w 4 Bool c0 C0.length H0,.cells E0 [v1_0,vI a1.fm,vI a1.fh,vI a1.fc] 35,.cells D0 [vI a0.fN,v0_1] 32]) (fun ⟨B0,y0⟩=>(B0,y0)) (shlU (1:Ua) J7,shlU (1:Ua) K7) B6 b1 ?_
 rintro d8 ⟨B0,y0⟩ z9 F4 K0 E1 h
 unfold au_l1 at h
 try dsimp only at h
 refine Ai<|Ae<|Ab I<|Ac (FV.neqU (a:=y0) (b:=(0:Ua)) I I)<|Aa<|MX.ifn I h (fun q4 h=>?_) (fun q4 h=>?_)
 refine AT I ?_
 have h:=Q5 _ h
 try dsimp only at h
 refine Ak<|AG I ((K0.memA .t2) 0 _ I)<|Ac (Bw I)<|Bh 1 I<|AG I ((K0.memA .t3) 1 _ I)<|Ab I<|Ab I<|Ab I<|Ac (FV.convU (i:=b0) underlying3 underlying44 I)<|Ac (FV.eqlU (a:=B0) (b:=ac b0) I I)<|bk h fun V7 u7 h=>?_
 obtain ⟨W5,v7⟩:=ax u7
 have p3:=Ar M1 (Tt c1 E1)
 obtain ⟨R3,B8,j2,c3,B4,J6,Q8⟩:=BF (α:=Bool) K0 .t4 p3 v7
 obtain ⟨b4,C8,V2⟩:=Bd (α:=Bool) K0 .t4 c3
 obtain rfl:R3=⟨b4,0,none⟩:=by rw [V2] at j2; cases j2; rfl
 have I5:B4=[.bool V7]:=J6; subst I5
 refine Ac (AU 1 (b0.toNat) I j2 I W5 c3)<|bk h fun X7 C7 h=>RG.acts' .plain (BE (α:=Bool) (i:=b0.toNat) C7 K0 V2 (fun _=>.t4) p3 I I I I I I) fun q9 ⟨C4,M4,I2,x5⟩=>Aa<|Ao<|Ak<|Ab I<|bk h fun Q7 V6 h=>Ac (Bu (i:=b0) (j:=1) I I V6)<|Af I<|Aa<|Z1 (Q7,W1,X7,F1,C4) M4 (Tt J1 (Tt c1 (Tt E1 I2))) ⟨(Ar P1 (Tt E1 I2)),x5⟩ h
 refine Am<|Aq<|Ae<|Ab I<|bk h fun I3 F7 h=>Bz (vI I3) (bd 51) I (e1 I) (fun w9 hw9=>aj_c n (K0.hL0 hL hw9) y0 (hG0.keep (K0.ag.trans hw9)) F7) I<|Af I<|Aa<|Ae<|Ab I<|Ab I<|Ac (FV.subU (a:=y0) (b:=(1:Ua)) I I)<|Ac (Br (a:=y0) (b:=y0-(1:Ua)) I I)<|Af I<|Aa<|Ae<|Ab I<|Ab I<|bk h fun p1 x7 h=>?_
 obtain ⟨X5,y7⟩:=ax x7
 obtain ⟨U3,D8,k2,d3,D4,K6,y6⟩:=BF (α:=Ua) K0 .t1 (Ar K2 (Tt H2 (Tt J1 (Tt c1 E1)))) y7
 obtain ⟨c4,E8,J5⟩:=Bd (α:=Ua) K0 .t1 d3
 obtain rfl:U3=⟨c4,0,none⟩:=by rw [J5] at k2; cases k2; rfl
 have K5:D4=[vU p1]:=K6; subst K5
 refine Ac (AU 1 (I3.toNat) I k2 I X5 d3)<|AG I (y6 0 _ I)<|Ab I<|Ac (FV.convU (i:=b0) underlying3 underlying44 I)<|Ac (Br (a:=p1) (b:=ac b0) I I)<|Ab I<|Ac (FV.andNotU (a:=p1&&&(ac b0)) (b:=B0) I I)<|Af I<|Aa<|Ae<|Ab I<|Ab I<|Ac (FV.orU (a:=B0) (b:=(p1&&&(ac b0))&&&~~~B0) I I)<|Af I<|Aa<|Ak<|Ab I<|Ab I<|Ac (FV.orU (a:=y0&&&(y0-(1:Ua))) (b:=(p1&&&(ac b0))&&&~~~B0) I I)<|Af I<|Aa<|Ao<|F4 (B0|||((p1&&&(ac b0))&&&~~~B0),(y0&&&(y0-(1:Ua)))|||((p1&&&(ac b0))&&&~~~B0)) K0 E1 h
 refine AT I ?_
 have h:=P5 _ h
 try dsimp only at h
 refine Ae<|Av .plain I (Does.makeMap (κ:=Ua×Ua) (ν:=Int) I0) fun s9 x2 P4 c5=>RG.nl [.map none] P4 fun t9 Y1 Q4 d5=>Bl [.map (some x2)] Q4 .hd (o1 I) fun u9 R4 g5=>Aa<|Ae<|RG.nl [.nilFunc] R4 fun v9 s1 U4 j5=>Aa<|Ae<|Ac (FV.makeFunc (vs:=[]) (us:=[vP Y1,vP g0,vP s1]) aB (e3 I I I))<|Bl [.func (.func 52) #[] #[vP Y1,vP g0,vP s1]] U4 .hd (o1 I) fun x9 A2 k5=>Aa<|Ae<|AG I ((A2.memA .t5) 0 _ I)<|Ac (FV.makeFunc (vs:=[]) (us:=[vP s1,vP g0]) aB (e2 I I))<|Ac (Bw I)<|Bh 2 I<|RG.now .plain (BI (j:=2) (old:=[vI a0.fN,c0,.nilFunc]) (news:=[.func (.func 54) #[] #[vP s1,vP g0]]) (new' :=[vI a0.fN,c0,.func (.func 54) #[] #[vP s1,vP g0]]) A2 .t6 I I I I I I (o1 I) I) fun y9 I1 p5=>Aa<|Ae<|AG I ((I1.memA .t5) 0 _ I)<|Af I<|Af I<|Aa<|Ap I ?_
 have B2:=BL I1 .t7
 have K8:=BM I1 .t7
 have M6:=BN (α:=Bool) (v:=c0) (xs:=C0) B2 L (BA (α:=Bool) I1 .t7 (Ar M1 (Tt c5 (Tt d5 (Tt g5 (Tt j5 (Tt k5 p5)))))) hL)
 refine Aw (u:=.tuple #[vP j0,vI 0]) hb0 func29 I (.cons (.tmp I) (.cons (.tmp I) .nil)) I ?_
 obtain ⟨C2,q5⟩:=AX B2 (.a6 (.a5 (.a0 (.a0 (.a0 .done)))))
 cases h
 exact ⟨C2.ag,fun w9 hw9=>⟨j0,g0,s1,Y1,x2,c0,I,C2.agree hw9,Ax (AB M6 q5) hw9⟩⟩
 intro b2
 refine Bc [5,8] (rk s0) ⟨?_,?_,trivial⟩
 refine BH (m' :=63) (sk s0) I .plain I (Does.mk (α:=Bool) V1 J0 el97 I) fun R7 X0 u1 K1=>?_
 have P2:=AD (cs:=(List.replicate (shlS 1 q0).toNat [.bool false]).flatten) (xs:=Z0) u1 L (Cells.mk V1 I)
 refine Rv 6 s0 I j1 (fun _=>Bj (vs:=[vI a0.fN,(.slice (some ⟨X0,0,none⟩) (shlS 1 q0).toNat (shlS 1 q0).toNat)]) (u:=.agg #[vI a0.fN,(.slice (some ⟨X0,0,none⟩) (shlS 1 q0).toNat (shlS 1 q0).toNat),.nilFunc]) (e2 I I) (fun w9=>by kernel_rfl))<|Bc [7,8] (rk s0) ⟨?_,?_,trivial⟩
 refine BH (m' :=255) (sk s0) I .plain I (AM u1 I I) fun y3 z1 D1 g1=>RD.nu 8 511 s0 I .plain I (AF [.pointer none] D1) fun x3 y1 A1 v1=>b2 (y1,z1,(.slice (some ⟨X0,0,none⟩) (shlS 1 q0).toNat (shlS 1 q0).toNat),(List.replicate (shlS 1 q0).toNat [.bool false]).flatten) A1 (Tt K1 (Tt g1 v1)) (Ar P2 (Tt g1 v1))
 refine BH (m' :=383) (sk s0) I .plain I (AF [.pointer none] u1) fun x3 y1 A1 v1=>RD.nu 7 511 s0 I .plain I (AM A1 I I) fun y3 z1 D1 g1=>?_
 obtain ⟨V4,s5⟩:=AX D1 (.a1 .d0)
 have q3:=Tt v1 (Tt g1 s5)
 exact b2 (y1,z1,(.slice (some ⟨X0,0,none⟩) (shlS 1 q0).toNat (shlS 1 q0).toNat),(List.replicate (shlS 1 q0).toNat [.bool false]).flatten) V4 (Tt K1 q3) (Ar P2 q3)
 refine BH (m' :=287) (sk s0) I .plain I (AF [.pointer none] J0) fun x3 y1 A1 v1=>RD.nu 5 319 s0 I .plain I (Does.mk (α:=Bool) V1 A1 el97 I) fun R7 X0 u1 K1=>Rv 6 s0 I j1 (fun _=>Bj (vs:=[vI a0.fN,(.slice (some ⟨X0,0,none⟩) (shlS 1 q0).toNat (shlS 1 q0).toNat)]) (u:=.agg #[vI a0.fN,(.slice (some ⟨X0,0,none⟩) (shlS 1 q0).toNat (shlS 1 q0).toNat),.nilFunc]) (e2 I I) (fun w9=>by kernel_rfl))<|RD.nu 7 511 s0 I .plain I (AM u1 I I) fun y3 z1 D1 g1=>?_
 obtain ⟨W4,J2⟩:=AX D1 (.a2 .d0)
 exact b2 (y1,z1,(.slice (some ⟨X0,0,none⟩) (shlS 1 q0).toNat (shlS 1 q0).toNat),(List.replicate (shlS 1 q0).toNat [.bool false]).flatten) W4 (Tt v1 (Tt K1 (Tt g1 J2))) (Ar (AD (cs:=(List.replicate (shlS 1 q0).toNat [.bool false]).flatten) (xs:=Z0) u1 L (Cells.mk V1 I)) (Tt g1 J2))
 refine Ae<|Ab I<|Af I<|Af I<|Aa<|Ap I ?_
 cases h
def bV_p (n:Nat) (a0:Tc) (a1:Td):Oa ((U8)×Int):=
  (au_p n a0 a1).bind fun b0=>(bb b0.1).bind fun c0=>(ay_p n b0.2 ([]:Lb ((Ua×Ua)×Int)) ([]:Lb Ua) ((shlU (1:Ua) c0)-(1:Ua)) a1.fc).bind fun d0=>(bK_p n d0.2).bind fun g0=>some (g0,(0:Int))
theorem bV_c (n:Nat) {L w} (hL:hl L w) (a0:Tc) {v0_1:Vc} (h0_1:Rep.R w L [v0_1] a0.fo) (a1:Td) {v1_0:Vc} (h1_0:Rep.R w L [v1_0] a1.fu) (hG0:Glob 0 tab0 w)  {r:(U8)×Int} (h:bV_p n a0 a1=some r) :
 Cl 6 #[.agg #[vI a0.fN,v0_1],.agg #[v1_0,vI a1.fm,vI a1.fh,vI a1.fc]] w (aj w fun _ u=>u=.tuple #[.agg ((ae r.1)).toArray,vI r.2]):=by
 unfold bV_p at h
 refine AJ func6 I I I fun _ cs0 hb0=>Ae<|RG.bx (AI w) I I fun q1 u0 G0 X0=>RG.bx G0 I I fun s1 v0 H0 Y0=>RG.nl zP H0 fun F0 x0 s0 Z0=>Af I<|Aa<|Ae<|Ac (AP I (s0.memA .t2))<|Ac (AP I (s0.memA .t1))<|bk h fun q0 Q0 h=>jE (bd 29) I (e2 I I) (fun w9 hw9=>Calls.gives (au_c n (s0.hL hL hw9) a0 (s0.km h0_1 hw9) a1 (s0.km h1_0 hw9) (hG0.keep (s0.ag.trans hw9)) Q0) fun (w8:World) (u8:Vc) ⟨b0_,b1_,b2_,b3_,b4_,v_,hu_,s_,r_⟩=>(⟨b0_,b1_,b2_,b3_,b4_,v_,hu_,s_.from hw9,r_⟩:∃ (g0 b0 c0 j0 k0:Nat) (t0:Vc),u8=Value.tuple #[vP g0,vI 0]/\St F0 w8 [.cells g0 [vI q0.1,t0,.func (.func 54) #[] #[vP c0,vP b0]] 100,.cells b0 [vP g0] 91,.cells c0 [.func (.func 52) #[] #[vP j0,vP b0,vP c0]] 136,.cells j0 [.map (some k0)] 135,.obj k0 (ab ([]:Lb ((Ua×Ua)×Int)))]/\Rep.R w8 (bl [.cells g0 [vI q0.1,t0,.func (.func 54) #[] #[vP c0,vP b0]] 100,.cells b0 [vP g0] 91,.cells c0 [.func (.func 52) #[] #[vP j0,vP b0,vP c0]] 136,.cells j0 [.map (some k0)] 135,.obj k0 (ab ([]:Lb ((Ua×Ua)×Int)))]++(bl [.cells x0 zP 46,.cells v0 [v1_0,vI a1.fm,vI a1.fh,vI a1.fc] 35,.cells u0 [vI a0.fN,v0_1] 32]++L)) [t0] q0.2)) I fun z0 k1 g1 ⟨g0,b0,c0,j0,k0,t0,P0,E0,K0⟩=>?_
 subst P0
 have y0:St w z0 [.cells g0 [vI q0.1,t0,.func (.func 54) #[] #[vP c0,vP b0]] 100,.cells b0 [vP g0] 91,.cells c0 [.func (.func 52) #[] #[vP j0,vP b0,vP c0]] 136,.cells j0 [.map (some k0)] 135,.obj k0 (ab ([]:Lb ((Ua×Ua)×Int))),.cells x0 zP 46,.cells v0 [v1_0,vI a1.fm,vI a1.fh,vI a1.fc] 35,.cells u0 [vI a0.fN,v0_1] 32]:=St.merge s0 E0
 have b1:Tr F0 [.cells x0 zP 46,.cells v0 [v1_0,vI a1.fm,vI a1.fh,vI a1.fc] 35,.cells u0 [vI a0.fN,v0_1] 32] z0 [.cells g0 [vI q0.1,t0,.func (.func 54) #[] #[vP c0,vP b0]] 100,.cells b0 [vP g0] 91,.cells c0 [.func (.func 52) #[] #[vP j0,vP b0,vP c0]] 136,.cells j0 [.map (some k0)] 135,.obj k0 (ab ([]:Lb ((Ua×Ua)×Int))),.cells x0 zP 46,.cells v0 [v1_0,vI a1.fm,vI a1.fh,vI a1.fc] 35,.cells u0 [vI a0.fN,v0_1] 32]:=Tr.merge s0 E0
 have M0:Rep.R z0 (bl [.cells g0 [vI q0.1,t0,.func (.func 54) #[] #[vP c0,vP b0]] 100,.cells b0 [vP g0] 91,.cells c0 [.func (.func 52) #[] #[vP j0,vP b0,vP c0]] 136,.cells j0 [.map (some k0)] 135,.obj k0 (ab ([]:Lb ((Ua×Ua)×Int))),.cells x0 zP 46,.cells v0 [v1_0,vI a1.fm,vI a1.fh,vI a1.fc] 35,.cells u0 [vI a0.fN,v0_1] 32]++L) [t0] q0.2:=lV K0
 refine Ab I<|Ac (Al I I)<|Ac (Al I I)<|Af I<|Af I<|Aa<|Ai<|Ae<|Ab I<|Ac (FV.neqN (i:=0) (j:=0) I I)<|Aa<|Bn I<|Am<|Ae<|Ab I<|Bh 3 I<|AG I ((y0.memA .t6) 3 _ I)<|BB (fst:=[]) (cap:=[]) (vs:=[vP g0,vI a1.fc]) .plain (bd 30) func30 I I I I (e2 I I) I fun W0 I0 j1=>Ae<|Af I<|Aa<|Ai<|du 11 fun d0 p0=>Rv 0 d0 I p0 (fun _=>Ah I)<|Rv 1 d0 I p0 (fun _=>Bw I)<|Rv 2 d0 I p0 (fun _=>Bv 2 I)<|Rx 3 6144 d0 I p0 (Ay I ((y0.memA .hd) 2 _ I))<|Rv 4 d0 I p0 (fun _=>Ah I)<|Rv 5 d0 I p0 (fun _=>Bw I)<|Rv 6 d0 I p0 (fun _=>Bv 0 I)<|Rx 7 6912 d0 I p0 (Ay I ((y0.memA .hd) 0 _ I))<|bk h fun D0 J0 h=>Rv 8 d0 I p0 (fun _=>FV.shlI (a:=(1:Ua)) (i:=q0.1) I I J0)<|Rv 9 d0 I p0 (fun _=>FV.subU (a:=shlU (1:Ua) D0) (b:=(1:Ua)) I I)<|Rv 10 d0 I p0 (fun _=>Ah I)<|bk h fun V0 R0 h=>Bb (i:=11) (rk d0) (RO.callL (m' :=4095) (fst:=[]) (cap:=[vP c0,vP b0]) (sk d0) I I .plain (bd 54) I (e3 I I I) (fun w9 hw9=>ay_c n _ hL q0.2 ([]:Lb ((Ua×Ua)×Int)) (y0.agree hw9) (Ax M0 hw9) (Ax (BP (α:=Ua) y0 L) hw9) ((shlU (1:Ua) D0)-(1:Ua)) R0) I (fun u1 p1 B0 c1 hu_=>?_))
 subst hu_
 refine Bb (i:=12) (rk d0) (Bg (m' :=8191) (sk d0) I .plain I (Bi I) ?_)
 refine AQ (dk d0)<|Ap I<|Aw (u:=vI V0.2) I0 func30 I (.cons (.tmp I) .nil) I<|bk h fun A0 U0 h=>Bz (.agg ((ae A0)).toArray) (bd 8) I (e1 I) (fun w9 hw9=>bK_c n (B0.hL0 hL hw9)  U0) I<|Bl (ae A0) B0 .t5 (aC I) fun v1 C0 d1=>Af I<|Aa<|Ap I<|Aw hb0 func6 I (.cons (.many (cs:=(ae A0)) I I (C0.memA .t5)) (.cons (.tmp I) .nil)) I ?_
 cases h
 exact C0.gv
def cq_p (n:Nat) (a0:U8) (a1:U8):Oa Int:=
  (aG_p n (a0.1,a0.2.1,a0.2.2.1,a0.2.2.2.1,a0.2.2.2.2.1,a0.2.2.2.2.2.1,a0.2.2.2.2.2.2.1,a0.2.2.2.2.2.2.2^^^(9223372036854775808:Ua)) (a1.1,a1.2.1,a1.2.2.1,a1.2.2.2.1,a1.2.2.2.2.1,a1.2.2.2.2.2.1,a1.2.2.2.2.2.2.1,a1.2.2.2.2.2.2.2^^^(9223372036854775808:Ua))).bind fun b0=>some b0
theorem cq_c (n:Nat) {L w} (hL:hl L w) (a0:U8) (a1:U8)  {r:Int} (h:cq_p n a0 a1=some r) :
 Cl 7 #[.agg ((ae a0)).toArray,.agg ((ae a1)).toArray] w (aj w fun _ u=>u=vI r):=by
 unfold cq_p at h
 refine AJ func7 I I I fun _ cs0 hb0=>Ae<|RG.bx (AI w) I I fun x0 p0 g0 s0=>RG.bx g0 I I fun y0 q0 c0 t0=>Af I<|Aa<|Ae<|Ac (AC (m:=1) (k:=7) (len:=8) I I I I (by omega))<|AG I ((c0.memA .t1) 7 _ I)<|Ac (FV.xorU (a:=a0.2.2.2.2.2.2.2) (b:=(9223372036854775808:Ua)) I I)<|Ac (AC (m:=1) (k:=7) (len:=8) I I I I (by omega))<|RG.now .plain (BI (j:=7) (old:=(ae a0)) (news:=[vW ((a0.2.2.2.2.2.2.2^^^(9223372036854775808:Ua)).toNat:Int)]) (new' :=[vU a0.1,vU a0.2.1,vU a0.2.2.1,vU a0.2.2.2.1,vU a0.2.2.2.2.1,vU a0.2.2.2.2.2.1,vU a0.2.2.2.2.2.2.1,vW ((a0.2.2.2.2.2.2.2^^^(9223372036854775808:Ua)).toNat:Int)]) c0 .t1 I I I I I I (o1 I) I) fun z0 d0 u0=>Aa<|Ae<|Ac (AC (m:=1) (k:=7) (len:=8) I I I I (by omega))<|AG I ((d0.memA .hd) 7 _ I)<|Ac (FV.xorU (a:=a1.2.2.2.2.2.2.2) (b:=(9223372036854775808:Ua)) I I)<|Ac (AC (m:=1) (k:=7) (len:=8) I I I I (by omega))<|RG.now .plain (BI (j:=7) (old:=(ae a1)) (news:=[vW ((a1.2.2.2.2.2.2.2^^^(9223372036854775808:Ua)).toNat:Int)]) (new' :=[vU a1.1,vU a1.2.1,vU a1.2.2.1,vU a1.2.2.2.1,vU a1.2.2.2.2.1,vU a1.2.2.2.2.2.1,vU a1.2.2.2.2.2.2.1,vW ((a1.2.2.2.2.2.2.2^^^(9223372036854775808:Ua)).toNat:Int)]) d0 .hd I I I I I I (o1 I) I) fun A0 b0 v0=>Aa<|Ae<|Ac (AP I (b0.memA .t1))<|Ac (AP I (b0.memA .hd))<|bk h fun k0 j0 h=>Bz (vI k0) (bd 31) I (e2 I I) (fun w9 hw9=>aG_c n (b0.hL0 hL hw9) (a0.1,a0.2.1,a0.2.2.1,a0.2.2.2.1,a0.2.2.2.2.1,a0.2.2.2.2.2.1,a0.2.2.2.2.2.2.1,a0.2.2.2.2.2.2.2^^^(9223372036854775808:Ua)) (a1.1,a1.2.1,a1.2.2.1,a1.2.2.2.1,a1.2.2.2.2.1,a1.2.2.2.2.2.1,a1.2.2.2.2.2.2.1,a1.2.2.2.2.2.2.2^^^(9223372036854775808:Ua)) j0) I<|Af I<|Aa<|Ap I<|AV hb0 func7 I I ?_
 cases h
 exact b0.gv
def aU_p (_n:Nat) (a0:Lb Ua):Oa (Lb Ua):=
  ce a0 (some ([]:Lb Ua)) ((app ([]:Lb Ua) a0).bind fun b0=>some b0)
theorem aU_c (n:Nat) {L w} (_hL:hl L w) {a0:Lb Ua} {v0_0:Vc} (h0_0:Rep.R w L [v0_0] a0)  {r:Lb Ua} (h:aU_p n a0=some r) :
 Cl 55 #[v0_0] w (aj w fun w' u=>∃ (v0_0:Vc) (cs0_0:Lb Vc),u=v0_0/\St w w' (bh w.heap.size [(44,Rep.size Ua,v0_0,r.length,cs0_0)])/\Cells w' (bl (bh w.heap.size [(44,Rep.size Ua,v0_0,r.length,cs0_0)])++L) cs0_0 (r:Lb Ua)):=by
 unfold aU_p at h
 have hS0:=AI w
 refine AJ func55 I I I fun _ cs0 hb0=>Ae<|Af I<|Aa<|Ai<|Ae<|Ab I ?_
 rcases Rep.nilOr h0_0 with ⟨c1,he3,hx4⟩ | ⟨ad2,c1,he3⟩
 have h:=fU h hx4
 refine Ac (FV.eqlNil1 underlying101 I he3 I)<|Aa<|Ba I<|Ae<|Af I<|Aa<|Ap I ?_
 have b0:=hS0.nilRow 44 (Rep.size Ua)
 have t0:=BW hS0 44 (Rep.size Ua)
 have k0:=AD (cs:=[]) (xs:=([]:Lb Ua)) b0 L (AK _ _)
 refine Aw (u:=vN) hb0 func55 I (.cons (.tmp I) .nil) I ?_
 cases h
 exact ⟨b0.ag,fun w9 hw9=>⟨vN,[],I,b0.agree hw9,Cells.keep0 k0 hw9⟩⟩
 have h:=fT h
 refine Ac (FV.eqlNil0 underlying101 I he3 I)<|Aa<|Bn I<|Am<|Ae<|Av .plain I (jB Ua hS0 bT) fun x0 s0 c0 u0=>Ab I<|bk h fun z0 q0 h=>RG.doesL .plain I (AL (α:=Ua) (ys:=a0) q0 c0 (fun _ _=>.hd) bT I I (jD Ua c0 L) (BO (AH h0_0 c0))) fun g0 y0 ⟨j0,d0,v0,p0⟩=>Af I<|Aa<|Ap I<|Aw (u:=g0) hb0 func55 I (.cons (.tmp I) .nil) I ?_
 cases h
 exact ⟨d0.ag,fun w9 hw9=>⟨g0,j0,I,d0.agree hw9,Cells.keep0 p0 hw9⟩⟩
def aV_p (n:Nat) (a0:Lb Ua) (a1:Int) (a2:Int):Oa (Lb Ua):=
  (aU_p n a0).bind fun y1=>jn (fun c0=>(idx c0 a2).bind fun g0=>(bb a1).bind fun d0=>(put c0 ((a2.toNat:Nat):Int) (g0|||(shlU (1:Ua) d0))).bind fun j0=>some j0) (fun b0=>(if a2=((y1.length:Nat):Int) then (app y1 ([(0:Ua)]:Lb Ua)).bind fun k0=>b0 k0 else b0 y1))
theorem aV_c (n:Nat) {L w} (hL:hl L w) {a0:Lb Ua} {v0_0:Vc} (h0_0:Rep.R w L [v0_0] a0) {a1:Int} {a2:Int}  {r:Lb Ua} (h:aV_p n a0 a1 a2=some r) :
 Cl 32 #[v0_0,vI a1,vI a2] w (aj w fun w' u=>∃ v0_0:Vc,u=v0_0/\Rep.R w' L [v0_0] r):=by
 unfold aV_p at h
 have hS0:=AI w
 refine AJ func32 I I I fun _ cs0 hb0=>Ae<|Af I<|Aa<|Ae<|Ab I<|bk h fun y1 hy1 h=>jE (bd 55) I (e1 I) (fun w9 hw9=>fV (b0:=w.heap.size) (aU_c n (hS0.hL hL hw9) (Ax h0_0 hw9) hy1) hw9 (Nat.le_trans hS0.ag.size hw9.size)) I fun w2 vu3 hag4 ⟨v9,x0,hu6,s5,U0⟩=>?_
 subst hu6
 have hS7:=gX hS0 s5
 have hT8:=mh hS0 s5
 have B0:=AD (cs:=x0) (xs:=(y1:Lb Ua)) hS7 L (eX U0)
 refine Af I<|Aa<|Ai<|Ae<|Ab I<|Ab I ?_
 have J1:y1.length<=4294967296:=St.rowLe (α:=Ua) hS7 .hd
 obtain ⟨z1,C1,X0⟩:=St.rowV (α:=Ua) hS7 .hd
 refine Ac (FV.lenV underlying101 I X0)<|Ac (BT (i:=a2) (j:=((y1.length:Nat):Int)) I I)<|Aa<|MX.jf (α:=(Lb Ua)×Vc×(Lb Vc)) (fun ⟨j0,d0,k0⟩=>[(1,vI a1),(2,vI a2),(7,d0)]) (fun ⟨j0,d0,k0⟩=>[rr w 44 Ua d0 j0.length k0]) (fun ⟨j0,d0,k0⟩ F0=>Cells F0 (bl [rr w 44 Ua d0 j0.length k0]++L) k0 j0) (fun ⟨j0,d0,k0⟩=>j0) hS7 h ?_ ?_
 rintro ⟨j0,d0,k0⟩ F0 q0 G1 C0 h
 try dsimp only at h
 refine Ai<|du 8 fun c0 g0=>Rv 0 c0 I g0 (fun _=>Ah I)<|Rv 1 c0 I g0 (fun _=>Ah I)<|bk h fun G0 j1 h=>?_
 obtain ⟨E0,k1⟩:=ax j1
 obtain ⟨H0,D1,p0,v0,K0,c1,b1⟩:=BF (α:=Ua) q0 .hd C0 k1
 obtain ⟨I0,E1,D0⟩:=Bd (α:=Ua) q0 .hd v0
 obtain rfl:H0=⟨I0,0,none⟩:=by rw [D0] at p0; cases p0; rfl
 have Y0:K0=[vU G0]:=c1; subst Y0
 refine Rv 2 c0 I g0 (fun _=>AU 1 (a2.toNat) I p0 I E0 v0)<|Rx 3 448 c0 I g0 (Ay I (b1 0 _ I))<|Rv 4 c0 I g0 (fun _=>Ah I)<|bk h fun s1 Z0 h=>Rv 5 c0 I g0 (fun _=>FV.shlI (a:=(1:Ua)) (i:=a1) I I Z0)<|Rv 6 c0 I g0 (fun _=>FV.orU (a:=G0) (b:=shlU (1:Ua) s1) I I)<|Rv 7 c0 I g0 (fun _=>AU 1 (a2.toNat) I p0 I E0 v0)<|bk h fun v1 p1 h=>Bb (i:=8) (rk c0) (RO.acts (m' :=511) (sk c0) I I .plain (BE (α:=Ua) (i:=a2.toNat) p1 q0 D0 (fun _=>.hd) C0 I I I I I I) (fun K1 ⟨F1,s0,H1,V0⟩=>?_))
 refine AQ (dk c0)<|Ae<|Ab I<|Af I<|Aa<|Ap I ?_
 have t0:=BL s0 .hd
 have I1:=BM s0 .hd
 have g1:=BN (α:=Ua) (v:=d0) (xs:=v1) t0 L (BA (α:=Ua) s0 .hd V0 hL)
 refine AV hb0 func32 I I ?_
 cases h
 exact ⟨t0.ag,fun w9 hw9=>⟨d0,I,t0.kd g1 hw9⟩⟩
 intro A1 y0 h
 try dsimp only at h
 refine AO I h (fun J0 h=>?_) (fun J0 h=>?_)
 refine Ak<|Ab I<|Av .plain I (jA ((0:Ua)) (vW 0) hS7 bT (e1 I)) fun M1 B1 u0 z0=>bk h fun x1 q1 h=>RG.doesL .plain I (AL (α:=Ua) (ys:=([(0:Ua)]:Lb Ua)) q1 u0 (fun _ _=>.t1) bT I I (Ar B0 z0) (Bx (α:=Ua) u0 .hd (jC ((0:Ua)) (vW 0) u0 L I))) fun u1 P1 ⟨M0,P0,R0,W0⟩=>Af I<|Aa ?_
 obtain ⟨Q0,A0⟩:=AX P0 .d1
 exact y0 (x1,u1,M0) Q0 (Tt z0 (Tt R0 A0)) (Ar W0 A0) h
 refine Am<|y0 (y1,vu3,x0) hS7 (By _ _) B0 h
def aJ_l1 (n:Nat) (t0:Int) (u0:Lb Ua) (d0:Nat) (v0:Int×Lb Bool) (p0:Nat) (a1:Td) (k0:Int×Int×(Lb ((Ua×Ua)×Int))->Oa (Int×(Lb ((Ua×Ua)×Int)))):Int×Int×(Lb ((Ua×Ua)×Int))->Oa (Int×(Lb ((Ua×Ua)×Int)))
  | (j0,b0,c0)=>(if b0<t0 then (aV_p n u0 ((d0:Nat):Int) b0).bind fun x0=>(ay_p n v0.2 c0 x0 ((shlU (1:Ua) p0)-(shlU (1:Ua) (d0+1))) a1.fc).bind fun g0=>(chk (j0+g0.2)).bind fun q0=>(chk (b0+1)).bind fun s0=>k0 (q0,s0,g0.1) else some (j0,c0))
def aJ_l2 (n:Nat) (a2:Lb Int) (j0:Int×Lb Bool) (a1:Td) (q0:Int×(Lb Ua)×Nat×(Lb ((Ua×Ua)×Int))->Oa (((U8)×Int)⊕((Lb ((Ua×Ua)×Int))×(Lb Ua)×Int))):Int×(Lb Ua)×Nat×(Lb ((Ua×Ua)×Int))->Oa (((U8)×Int)⊕((Lb ((Ua×Ua)×Int))×(Lb Ua)×Int))
  | (k0,d0,b0,g0)=>(if b0<a2.length then (a2[b0]?).bind fun c0=>(if c0<0 then some (.inl ((0,0,0,0,0,0,0,0),(2:Int))) else (if ((d0.length:Nat):Int)<c0 then some (.inl ((0,0,0,0,0,0,0,0),(2:Int))) else (bb j0.1).bind fun s0=>Option.bind (ah (aJ_l1 n c0 d0 b0 j0 s0 a1) n (k0,0,g0)) (fun (u0,p0)=>(aV_p n d0 ((b0:Nat):Int) c0).bind fun t0=>q0 (u0,t0,b0+1,p0)))) else some (.inr (g0,d0,k0)))
def aJ_p (n:Nat) (a0:Tc) (a1:Td) (a2:Lb Int):Oa ((U8)×Int):=
  (au_p n a0 a1).bind fun b0=>(if ((a2.length:Nat):Int)=b0.1 then thn (ah (aJ_l2 n a2 b0 a1) n (0,([]:Lb Ua),0,([]:Lb ((Ua×Ua)×Int)))) (fun (c0,d0,k0)=>(ay_p n b0.2 c0 d0 (0:Ua) a1.fc).bind fun g0=>(if g0.2=1 then (bK_p n k0).bind fun j0=>some (j0,(0:Int)) else some ((0,0,0,0,0,0,0,0),(2:Int)))) else some ((0,0,0,0,0,0,0,0),(2:Int)))
theorem aJ_c (n:Nat) {L w} (hL:hl L w) (a0:Tc) {v0_1:Vc} (h0_1:Rep.R w L [v0_1] a0.fo) (a1:Td) {v1_0:Vc} (h1_0:Rep.R w L [v1_0] a1.fu) {a2:Lb Int} {v2_0:Vc} (h2_0:Rep.R w L [v2_0] a2) (hG0:Glob 0 tab0 w)  {r:(U8)×Int} (h:aJ_p n a0 a1 a2=some r) :
 Cl 9 #[.agg #[vI a0.fN,v0_1],.agg #[v1_0,vI a1.fm,vI a1.fh,vI a1.fc],v2_0] w (aj w fun _ u=>u=.tuple #[.agg ((ae r.1)).toArray,vI r.2]):=by
 unfold aJ_p at h
 refine AJ func9 I I I fun _ cs0 hb0=>Ae<|RG.bx (AI w) I I fun B3 P0 K1 U2=>RG.bx K1 I I fun C3 x0 M1 V2=>RG.nl zP M1 fun y1 y0 C0 W2=>Af I<|Aa<|Ae<|Ac (AP I (C0.memA .t2))<|Ac (AP I (C0.memA .t1))<|bk h fun q0 A2 h=>jE (bd 29) I (e2 I I) (fun w9 hw9=>Calls.gives (au_c n (C0.hL hL hw9) a0 (C0.km h0_1 hw9) a1 (C0.km h1_0 hw9) (hG0.keep (C0.ag.trans hw9)) A2) fun (w8:World) (u8:Vc) ⟨b0_,b1_,b2_,b3_,b4_,v_,hu_,s_,r_⟩=>(⟨b0_,b1_,b2_,b3_,b4_,v_,hu_,s_.from hw9,r_⟩:∃ (d0 b0 c0 j0 k0:Nat) (v0:Vc),u8=Value.tuple #[vP d0,vI 0]/\St y1 w8 [.cells d0 [vI q0.1,v0,.func (.func 54) #[] #[vP c0,vP b0]] 100,.cells b0 [vP d0] 91,.cells c0 [.func (.func 52) #[] #[vP j0,vP b0,vP c0]] 136,.cells j0 [.map (some k0)] 135,.obj k0 (ab ([]:Lb ((Ua×Ua)×Int)))]/\Rep.R w8 (bl [.cells d0 [vI q0.1,v0,.func (.func 54) #[] #[vP c0,vP b0]] 100,.cells b0 [vP d0] 91,.cells c0 [.func (.func 52) #[] #[vP j0,vP b0,vP c0]] 136,.cells j0 [.map (some k0)] 135,.obj k0 (ab ([]:Lb ((Ua×Ua)×Int)))]++(bl [.cells y0 zP 46,.cells x0 [v1_0,vI a1.fm,vI a1.fh,vI a1.fc] 35,.cells P0 [vI a0.fN,v0_1] 32]++L)) [v0] q0.2)) I fun b1 x3 j3 ⟨d0,b0,c0,j0,k0,v0,y2,x1,q2⟩=>?_
 subst y2
 have Q0:St w b1 [.cells d0 [vI q0.1,v0,.func (.func 54) #[] #[vP c0,vP b0]] 100,.cells b0 [vP d0] 91,.cells c0 [.func (.func 52) #[] #[vP j0,vP b0,vP c0]] 136,.cells j0 [.map (some k0)] 135,.obj k0 (ab ([]:Lb ((Ua×Ua)×Int))),.cells y0 zP 46,.cells x0 [v1_0,vI a1.fm,vI a1.fh,vI a1.fc] 35,.cells P0 [vI a0.fN,v0_1] 32]:=St.merge C0 x1
 have Z2:Tr y1 [.cells y0 zP 46,.cells x0 [v1_0,vI a1.fm,vI a1.fh,vI a1.fc] 35,.cells P0 [vI a0.fN,v0_1] 32] b1 [.cells d0 [vI q0.1,v0,.func (.func 54) #[] #[vP c0,vP b0]] 100,.cells b0 [vP d0] 91,.cells c0 [.func (.func 52) #[] #[vP j0,vP b0,vP c0]] 136,.cells j0 [.map (some k0)] 135,.obj k0 (ab ([]:Lb ((Ua×Ua)×Int))),.cells y0 zP 46,.cells x0 [v1_0,vI a1.fm,vI a1.fh,vI a1.fc] 35,.cells P0 [vI a0.fN,v0_1] 32]:=Tr.merge C0 x1
 have v1:Rep.R b1 (bl [.cells d0 [vI q0.1,v0,.func (.func 54) #[] #[vP c0,vP b0]] 100,.cells b0 [vP d0] 91,.cells c0 [.func (.func 52) #[] #[vP j0,vP b0,vP c0]] 136,.cells j0 [.map (some k0)] 135,.obj k0 (ab ([]:Lb ((Ua×Ua)×Int))),.cells y0 zP 46,.cells x0 [v1_0,vI a1.fm,vI a1.fh,vI a1.fc] 35,.cells P0 [vI a0.fN,v0_1] 32]++L) [v0] q0.2:=lV q2
 refine Ab I<|Ac (Al I I)<|Ac (Al I I)<|Af I<|Af I<|Aa<|Ai<|Ae<|Ab I<|Ac (FV.neqN (i:=0) (j:=0) I I)<|Aa<|Bn I<|Am<|Ai<|Ae<|Ab I ?_
 have Y0:=AH h2_0 Q0
 have p3:=AY Y0
 refine Ac (Bf (xs:=a2) underlying36 I Y0)<|Ab I<|Ac (Bw I)<|Bh 0 I<|AG I ((Q0.memA .hd) 0 _ I)<|Ac (FV.neq (i:=((a2.length:Nat):Int)) (j:=q0.1) I I)<|Aa<|MX.ifn I h (fun G1 h=>?_) (fun G1 h=>?_)
 refine Am<|Ae<|Af I<|Aa<|Ae<|Af I<|Aa<|Ai<|Ae<|Ab I<|Ac (Bf (xs:=a2) underlying36 I Y0)<|Ab I<|Aa<|Aq ?_
 have q3:=BP (α:=Ua) Q0 L
 obtain ⟨d1,s1⟩:=AX Q0 (.a0 (.a0 (.a0 (.a0 (.a0 (.a0 (.a0 .done)))))))
 refine tn h fun s3 j2 X0=>MX.lf (α:=Int×(Lb Ua)×Nat×(Lb ((Ua×Ua)×Int))×Vc) (fun ⟨H0,B0,p0,A0,G0⟩=>[(4,vP x0),(6,vP y0),(8,vP d0),(10,vI H0),(11,G0),(34,v2_0),(35,vn a2.length),(36,vn p0)]) (fun ⟨H0,B0,p0,A0,G0⟩=>[.cells d0 [vI q0.1,v0,.func (.func 54) #[] #[vP c0,vP b0]] 100,.cells b0 [vP d0] 91,.cells c0 [.func (.func 52) #[] #[vP j0,vP b0,vP c0]] 136,.cells j0 [.map (some k0)] 135,.obj k0 (ab (A0:Lb ((Ua×Ua)×Int))),.cells y0 zP 46,.cells x0 [v1_0,vI a1.fm,vI a1.fh,vI a1.fc] 35]) (fun ⟨H0,B0,p0,A0,G0⟩ z1=>Rep.R z1 (bl [.cells d0 [vI q0.1,v0,.func (.func 54) #[] #[vP c0,vP b0]] 100,.cells b0 [vP d0] 91,.cells c0 [.func (.func 52) #[] #[vP j0,vP b0,vP c0]] 136,.cells j0 [.map (some k0)] 135,.obj k0 (ab (A0:Lb ((Ua×Ua)×Int))),.cells y0 zP 46,.cells x0 [v1_0,vI a1.fm,vI a1.fh,vI a1.fc] 35]++L) [G0] B0) (fun ⟨H0,B0,p0,A0,G0⟩=>(H0,B0,p0,A0)) (0,([]:Lb Ua),0,([]:Lb ((Ua×Ua)×Int)),vN) j2 d1 (BP (α:=Ua) d1 L) ?_
 rintro P2 ⟨H0,B0,p0,A0,G0⟩ z1 I1 D0 W0 U0 h
 unfold aJ_l2 at h
 try dsimp only at h
 refine Ae<|Ac (Bp (i:=p0) (j:=a2.length) I I)<|Aa<|Ai<|AO I h (fun B1 h=>?_) (fun B1 h=>?_)
 refine Am<|Ai<|Aq<|Ae<|Ab I<|bk h fun M0 z2 h=>?_
 obtain ⟨M2,R2,Y1,c2,H1,p2,g2⟩:=Bq (AH h2_0 D0) z2
 have Z1:H1=[vI M0]:=p2; subst Z1
 refine Ac (AU 1 p0 I Y1 I I c2)<|AG I (g2 0 _ I)<|Af I<|Af I<|Aa<|Ai<|Ae<|Ab I<|Ac (BR (i:=M0) (j:=0) I I)<|Ab I<|BD (s:=43) I h (fun C1 h=>?_) (fun C1 h=>?_)
 refine Aj<|Aj<|Aj<|Aj<|Bm I I<|Aa<|Ba I<|Ae<|Ac (Bj (vs:=[]) (u:=.agg zQ) aB (fun w9=>by kernel_rfl))<|Bl zP D0 .t5 (aC I) fun D3 g1 X2=>Af I<|Aa ?_
 have h:=aO h X0
 refine Ap I<|Aw hb0 func9 I (.cons (.many (cs:=zP) I I (g1.memA .t5)) (.cons (.tmp I) .nil)) I ?_
 cases h
 exact g1.gv
 refine Au (Ah I)<|Au (Ah I) ?_
 have k3:=AY U0
 refine Au (Bf (xs:=B0) underlying101 I U0)<|Au (FV.gtr (i:=M0) (j:=((B0.length:Nat):Int)) I I)<|Bo I I<|Aa<|AO I h (fun D1 h=>?_) (fun D1 h=>?_)
 refine Ae<|Ac (Bj (vs:=[]) (u:=.agg zQ) aB (fun w9=>by kernel_rfl))<|Bl zP D0 .t5 (aC I) fun E3 j1 Y2=>Af I<|Aa ?_
 have h:=aO h X0
 refine Ap I<|Aw hb0 func9 I (.cons (.many (cs:=zP) I I (j1.memA .t5)) (.cons (.tmp I) .nil)) I ?_
 cases h
 exact j1.gv
 refine Am<|Ai<|du 10 fun u0 z0=>Rv 0 u0 I z0 (fun _=>Ah I)<|Rv 1 u0 I z0 (fun _=>Bw I)<|Rv 2 u0 I z0 (fun _=>Bv 0 I)<|Rx 3 784 u0 I z0 (Ay I ((D0.memA .hd) 0 _ I))<|bk h fun Z0 d2 h=>Rv 4 u0 I z0 (fun _=>FV.shlI (a:=(1:Ua)) (i:=q0.1) I I d2)<|Rv 5 u0 I z0 (fun _=>Ah I)<|Rv 6 u0 I z0 (fun _=>AW (i:=p0) (j:=1) I I (by omega))<|Rv 7 u0 I z0 (fun _=>FV.shlU (a:=(1:Ua)) (j:=p0+1) I I)<|Rv 8 u0 I z0 (fun _=>FV.subU (a:=shlU (1:Ua) Z0) (b:=shlU (1:Ua) (p0+1)) I I)<|Rv 9 u0 I z0 (fun _=>Bi I)<|AQ (dk u0)<|Ai<|Ae<|Ab I<|Ab I<|Aa<|Aq ?_
 obtain ⟨t3,k2,b2⟩:=ai h
 refine MX.lo (α:=Int×Int×(Lb ((Ua×Ua)×Int))) (fun ⟨I0,J0,E0⟩=>[(4,vP x0),(6,vP y0),(8,vP d0),(10,vI I0),(11,G0),(34,v2_0),(35,vn a2.length),(36,vn p0),(12,vn p0),(13,vI M0),(14,vW (((shlU (1:Ua) Z0)-(shlU (1:Ua) (p0+1))).toNat:Int)),(59,vI M0),(60,vI J0)]) (fun ⟨I0,J0,E0⟩=>[.cells d0 [vI q0.1,v0,.func (.func 54) #[] #[vP c0,vP b0]] 100,.cells b0 [vP d0] 91,.cells c0 [.func (.func 52) #[] #[vP j0,vP b0,vP c0]] 136,.cells j0 [.map (some k0)] 135,.obj k0 (ab (E0:Lb ((Ua×Ua)×Int))),.cells y0 zP 46,.cells x0 [v1_0,vI a1.fm,vI a1.fh,vI a1.fc] 35]) (fun ⟨I0,J0,E0⟩=>(I0,J0,E0)) (H0,0,A0) k2 D0 ?_
 rintro Q2 ⟨I0,J0,E0⟩ P3 J1 K0 R0 h
 unfold aJ_l1 at h
 try dsimp only at h
 refine Ae<|Ac (BR (i:=J0) (j:=M0) I I)<|Aa<|Ai<|AO I h (fun E1 h=>?_) (fun E1 h=>?_)
 refine Am<|Ai<|Aq<|Ae<|Ab I<|Af I<|Aa<|du 12 fun g0 t0=>Rv 0 g0 I t0 (fun _=>Ah I)<|Rv 1 g0 I t0 (fun _=>Ah I)<|Rv 2 g0 I t0 (fun _=>Bw I)<|Rv 3 g0 I t0 (fun _=>Bv 2 I)<|Rx 4 28672 g0 I t0 (Ay I ((K0.memA .hd) 2 _ I))<|Rv 5 g0 I t0 (fun _=>Ah I)<|Rv 6 g0 I t0 (fun _=>Ah I)<|Rv 7 g0 I t0 (fun _=>Ah I)<|Rv 9 g0 I t0 (fun _=>Ah I)<|Rv 10 g0 I t0 (fun _=>Bv 3 I)<|Rx 11 28672 g0 I t0 (Ay I ((K0.memA .t6) 3 _ I))<|bk h fun Q3 B2 h=>BQ 8 4095 g0 I .plain (bd 32) I (e3 I I I) (fun w9 hw9=>aV_c n (K0.hL hL hw9) (Ax (AB U0 R0) hw9) B2) I fun F3 y3 W1 ⟨u3,hu_,s2⟩=>?_
 subst hu_
 obtain ⟨P1,u1⟩:=K0.agr W1
 refine bk h fun A1 C2 h=>Bb (i:=12) (rk g0) (RO.callL (m' :=8191) (fst:=[]) (cap:=[vP c0,vP b0]) (sk g0) I I .plain (bd 54) I (e3 I I I) (fun w9 hw9=>ay_c n _ hL q0.2 E0 (P1.agree hw9) (Ax (AB v1 (Tt s1 (Tt W0 (Tt R0 u1)))) hw9) (Ax s2 hw9) ((shlU (1:Ua) Z0)-(shlU (1:Ua) (p0+1))) C2) I (fun G3 z3 Q1 U1 hu_=>?_))
 subst hu_
 refine bk h fun G2 v2 h=>Bb (i:=13) (rk g0) (Bg (m' :=16383) (sk g0) I .plain I (Bu (i:=I0) (j:=A1.2) I I v2) ?_)
 refine Bb (i:=14) (rk g0) (Bg (m' :=32767) (sk g0) I .plain I (Bi I) ?_)
 refine AQ (dk g0)<|Ao<|Ak<|bk h fun H2 x2 h=>Ac (Bu (i:=J0) (j:=1) I I x2)<|Ab I<|Aa<|J1 (G2,H2,A1.1) Q1 (Tt R0 (Tt u1 U1)) h
 refine AT I ?_
 have h:=b2 _ h
 try dsimp only at h
 refine Ak<|Ab I<|Ab I<|Ab I<|bk h fun J2 D2 h=>jE (bd 32) I (e3 I I I) (fun w9 hw9=>aV_c n (K0.hL hL hw9) (Ax (AB U0 R0) hw9) D2) I fun H3 I2 X1 ⟨v3,hu_,u2⟩=>?_
 subst hu_
 obtain ⟨R1,V1⟩:=K0.agr X1
 refine Af I<|Aa<|Ao<|Ak<|Ac (AW (i:=p0) (j:=1) I I (by omega))<|Ab I<|Aa<|I1 (I0,J2,p0+1,E0,I2) R1 (Tt W0 (Tt R0 V1)) u2 h
 refine AT I ?_
 have h:=bD h X0
 try dsimp only at h
 refine Ai<|Ai<|du 7 fun s0 F0=>Rv 0 s0 I F0 (fun _=>Ah I)<|Rv 1 s0 I F0 (fun _=>Bw I)<|Rv 2 s0 I F0 (fun _=>Bv 2 I)<|Rx 3 384 s0 I F0 (Ay I ((D0.memA .hd) 2 _ I))<|Rv 4 s0 I F0 (fun _=>Ah I)<|Rv 5 s0 I F0 (fun _=>Bv 3 I)<|Rx 6 384 s0 I F0 (Ay I ((D0.memA .t6) 3 _ I))<|bk h fun K2 E2 h=>Bb (i:=7) (rk s0) (RO.callL (m' :=255) (fst:=[]) (cap:=[vP c0,vP b0]) (sk s0) I I .plain (bd 54) I (e3 I I I) (fun w9 hw9=>ay_c n _ hL q0.2 A0 (D0.agree hw9) (Ax (AB v1 (Tt s1 W0)) hw9) (Ax U0 hw9) (0:Ua) E2) I (fun I3 A3 V0 b3 hu_=>?_))
 subst hu_
 refine Bb (i:=8) (rk s0) (Bg (m' :=511) (sk s0) I .plain I (FV.neq (i:=K2.2) (j:=1) I I) ?_)
 refine AQ (dk s0)<|MX.ifn I h (fun F1 h=>?_) (fun F1 h=>?_)
 refine Am<|Ae<|Ab I<|bk h fun c1 F2 h=>Bz (.agg ((ae c1)).toArray) (bd 8) I (e1 I) (fun w9 hw9=>bK_c n (V0.hL0 hL hw9)  F2) I<|Bl (ae c1) V0 .t5 (aC I) fun J3 k1 c3=>Af I<|Aa<|Ap I<|Aw hb0 func9 I (.cons (.many (cs:=(ae c1)) I I (k1.memA .t5)) (.cons (.tmp I) .nil)) I ?_
 cases h
 exact k1.gv
 refine Ae<|Ac (Bj (vs:=[]) (u:=.agg zQ) aB (fun w9=>by kernel_rfl))<|Bl zP V0 .t5 (aC I) fun K3 p1 d3=>Af I<|Aa<|Ap I<|Aw hb0 func9 I (.cons (.many (cs:=zP) I I (p1.memA .t5)) (.cons (.tmp I) .nil)) I ?_
 cases h
 exact p1.gv
 refine Ae<|Ac (Bj (vs:=[]) (u:=.agg zQ) aB (fun w9=>by kernel_rfl))<|Bl zP Q0 .t5 (aC I) fun M3 q1 g3=>Af I<|Aa<|Ap I<|Aw hb0 func9 I (.cons (.many (cs:=zP) I I (q1.memA .t5)) (.cons (.tmp I) .nil)) I ?_
 cases h
 exact q1.gv
def cy_p (n:Nat) (a0:U8):Oa (Int×Int):=
  (bK_p n (jX a0.1)).bind fun b0=>(if b0=a0 then some (jX a0.1,(0:Int)) else some ((0:Int),(6:Int)))
theorem cy_c (n:Nat) {L w} (hL:hl L w) (a0:U8)  {r:Int×Int} (h:cy_p n a0=some r) :
 Cl 33 #[.agg ((ae a0)).toArray] w (aj w fun _ u=>u=.tuple #[vI r.1,vI r.2]):=by
 unfold cy_p at h
 refine AJ func33 I I I fun _ cs0 hb0=>Ae<|RG.bx (AI w) I I fun s0 p0 b0 q0=>Af I<|Af I<|Aa<|Ae<|Ac (AC (m:=1) (k:=0) (len:=8) I I I I (by omega))<|AG I ((b0.memA .hd) 0 _ I)<|Ac (FV.convUI (a:=a0.1) underlying44 underlying3 I)<|Af I<|Aa<|Ai<|Ai<|du 4 fun c0 d0=>Rv 0 c0 I d0 (fun _=>Ah I)<|bk h fun g0 k0 h=>RD.cq 1 3 8 (.agg ((ae g0)).toArray) c0 I d0 (bd 8) I (e1 I) (fun w9 hw9=>bK_c n (b0.hL0 hL hw9)  k0) I<|Rx 2 8 c0 I d0 (AP I (b0.memA .hd))<|Rv 3 c0 I d0 (fun _=>FV.neqV (xs:=((ae g0)).toArray) (ys:=((ae a0)).toArray) I I (by kernel_rfl) (oM g0 a0))<|AQ (dk c0)<|MX.ifn I h (fun j0 h=>?_) (fun j0 h=>?_)
 refine Am<|Ae<|Ab I<|Af I<|Af I<|Aa<|Ap I<|Aw hb0 func33 I (.cons (.tmp I) (.cons (.tmp I) .nil)) I ?_
 cases h
 exact b0.gv
 refine Ae<|Af I<|Af I<|Aa<|Ap I<|Aw hb0 func33 I (.cons (.tmp I) (.cons (.tmp I) .nil)) I ?_
 cases h
 exact b0.gv
def aR_l1 (n:Nat) (z0:Int) (y0:Int×Lb Bool) (q0:Nat) (s0:Nat) (a1:Td) (v0:Lb Int) (p0:Int×(Lb Ua)×Int×(Lb ((Ua×Ua)×Int))->Oa (Int×(Lb Ua)×(Lb Int)×((Lb ((Ua×Ua)×Int))×Int))):Int×(Lb Ua)×Int×(Lb ((Ua×Ua)×Int))->Oa (Int×(Lb Ua)×(Lb Int)×((Lb ((Ua×Ua)×Int))×Int))
  | (c0,g0,d0,k0)=>(aV_p n g0 z0 d0).bind fun j0=>(ay_p n y0.2 k0 j0 ((shlU (1:Ua) q0)-(shlU (1:Ua) s0)) a1.fc).bind fun b0=>(if c0<b0.2 then (app v0 ([d0]:Lb Int)).bind fun x0=>some (c0,j0,x0,b0) else (chk (c0-b0.2)).bind fun t0=>(chk (d0+1)).bind fun u0=>p0 (t0,g0,u0,b0.1))
def aR_l2 (n:Nat) (c0:Int×Lb Bool) (a1:Td) (j0:Int×(Lb Ua)×Int×(Lb Int)×(Lb ((Ua×Ua)×Int))->Oa (Lb Int)):Int×(Lb Ua)×Int×(Lb Int)×(Lb ((Ua×Ua)×Int))->Oa (Lb Int)
  | (y0,t0,b0,d0,g0)=>(if b0<c0.1 then (bb c0.1).bind fun k0=>(chk (b0+1)).bind fun q0=>(bb q0).bind fun p0=>Option.bind (ah (aR_l1 n b0 c0 k0 p0 a1 d0) n (y0,t0,0,g0)) (fun (z0,v0,u0,x0)=>(chk (b0+1)).bind fun s0=>j0 (z0,v0,s0,u0,x0.1)) else some d0)
def aR_p (n:Nat) (a0:Tc) (a1:Td) (a2:U8):Oa ((Lb Int)×Int):=
  (au_p n a0 a1).bind fun c0=>(cy_p n a2).bind fun b0=>(if b0.2=0 then (if b0.1<0 then some (([]:Lb Int),(2:Int)) else (bb c0.1).bind fun g0=>(ay_p n c0.2 ([]:Lb ((Ua×Ua)×Int)) ([]:Lb Ua) ((shlU (1:Ua) g0)-(1:Ua)) a1.fc).bind fun d0=>(if d0.2<=b0.1 then some (([]:Lb Int),(2:Int)) else Option.bind (ah (aR_l2 n c0 a1) n (b0.1,([]:Lb Ua),0,([]:Lb Int),d0.1)) (fun j0=>some (j0,(0:Int))))) else some (([]:Lb Int),(2:Int)))
theorem aR_c (n:Nat) {L w} (hL:hl L w) (a0:Tc) {v0_1:Vc} (h0_1:Rep.R w L [v0_1] a0.fo) (a1:Td) {v1_0:Vc} (h1_0:Rep.R w L [v1_0] a1.fu) (a2:U8) (hG0:Glob 0 tab0 w)  {r:(Lb Int)×Int} (h:aR_p n a0 a1 a2=some r) :
 Cl 10 #[.agg #[vI a0.fN,v0_1],.agg #[v1_0,vI a1.fm,vI a1.fh,vI a1.fc],.agg ((ae a2)).toArray] w (aj w fun w' u=>∃ v0_0:Vc,u=.tuple #[v0_0,vI r.2]/\Rep.R w' L [v0_0] r.1):=by
 unfold aR_p at h
 refine AJ func10 I I I fun _ cs0 hb0=>Ae<|RG.bx (AI w) I I fun U3 B0 b2 B3=>RG.bx b2 I I fun V3 C0 c2 C3=>RG.bx c2 I I fun M1 D0 J0 D3=>Af I<|Af I<|Aa<|Ae<|Ac (AP I (J0.memA .t2))<|Ac (AP I (J0.memA .t1))<|bk h fun p0 Y2 h=>jE (bd 29) I (e2 I I) (fun w9 hw9=>Calls.gives (au_c n (J0.hL hL hw9) a0 (J0.km h0_1 hw9) a1 (J0.km h1_0 hw9) (hG0.keep (J0.ag.trans hw9)) Y2) fun (w8:World) (u8:Vc) ⟨b0_,b1_,b2_,b3_,b4_,v_,hu_,s_,r_⟩=>(⟨b0_,b1_,b2_,b3_,b4_,v_,hu_,s_.from hw9,r_⟩:∃ (g0 b0 c0 j0 k0:Nat) (v0:Vc),u8=Value.tuple #[vP g0,vI 0]/\St M1 w8 [.cells g0 [vI p0.1,v0,.func (.func 54) #[] #[vP c0,vP b0]] 100,.cells b0 [vP g0] 91,.cells c0 [.func (.func 52) #[] #[vP j0,vP b0,vP c0]] 136,.cells j0 [.map (some k0)] 135,.obj k0 (ab ([]:Lb ((Ua×Ua)×Int)))]/\Rep.R w8 (bl [.cells g0 [vI p0.1,v0,.func (.func 54) #[] #[vP c0,vP b0]] 100,.cells b0 [vP g0] 91,.cells c0 [.func (.func 52) #[] #[vP j0,vP b0,vP c0]] 136,.cells j0 [.map (some k0)] 135,.obj k0 (ab ([]:Lb ((Ua×Ua)×Int)))]++(bl [.cells D0 (ae a2) 46,.cells C0 [v1_0,vI a1.fm,vI a1.fh,vI a1.fc] 35,.cells B0 [vI a0.fN,v0_1] 32]++L)) [v0] p0.2)) I fun s1 P3 G3 ⟨g0,b0,c0,j0,k0,v0,W2,K1,I2⟩=>?_
 subst W2
 have u0:St w s1 [.cells g0 [vI p0.1,v0,.func (.func 54) #[] #[vP c0,vP b0]] 100,.cells b0 [vP g0] 91,.cells c0 [.func (.func 52) #[] #[vP j0,vP b0,vP c0]] 136,.cells j0 [.map (some k0)] 135,.obj k0 (ab ([]:Lb ((Ua×Ua)×Int))),.cells D0 (ae a2) 46,.cells C0 [v1_0,vI a1.fm,vI a1.fh,vI a1.fc] 35,.cells B0 [vI a0.fN,v0_1] 32]:=St.merge J0 K1
 have E3:Tr M1 [.cells D0 (ae a2) 46,.cells C0 [v1_0,vI a1.fm,vI a1.fh,vI a1.fc] 35,.cells B0 [vI a0.fN,v0_1] 32] s1 [.cells g0 [vI p0.1,v0,.func (.func 54) #[] #[vP c0,vP b0]] 100,.cells b0 [vP g0] 91,.cells c0 [.func (.func 52) #[] #[vP j0,vP b0,vP c0]] 136,.cells j0 [.map (some k0)] 135,.obj k0 (ab ([]:Lb ((Ua×Ua)×Int))),.cells D0 (ae a2) 46,.cells C0 [v1_0,vI a1.fm,vI a1.fh,vI a1.fc] 35,.cells B0 [vI a0.fN,v0_1] 32]:=Tr.merge J0 K1
 have G1:Rep.R s1 (bl [.cells g0 [vI p0.1,v0,.func (.func 54) #[] #[vP c0,vP b0]] 100,.cells b0 [vP g0] 91,.cells c0 [.func (.func 52) #[] #[vP j0,vP b0,vP c0]] 136,.cells j0 [.map (some k0)] 135,.obj k0 (ab ([]:Lb ((Ua×Ua)×Int))),.cells D0 (ae a2) 46,.cells C0 [v1_0,vI a1.fm,vI a1.fh,vI a1.fc] 35,.cells B0 [vI a0.fN,v0_1] 32]++L) [v0] p0.2:=lV I2
 refine Ab I<|Ac (Al I I)<|Ac (Al I I)<|Af I<|Af I<|Aa<|Ai<|Ae<|Ab I<|Ac (FV.neqN (i:=0) (j:=0) I I)<|Aa<|Bn I<|Am<|Ae<|Ac (AP I (u0.memA .t5))<|bk h fun U0 Z2 h=>Bz (.tuple #[vI U0.1,vI U0.2]) (bd 33) I (e1 I) (fun w9 hw9=>cy_c n (u0.hL0 hL hw9) a2 Z2) I<|Ab I<|Ac (Al I I)<|Ac (Al I I)<|Af I<|Af I<|Aa<|Ai<|Ae<|Ab I<|Ac (FV.neq (i:=U0.2) (j:=0) I I)<|Ab I<|RG.ifn (s:=27) I h (fun R1 h=>?_) (fun R1 h=>?_)
 refine Au (Ah I)<|Au (BR (i:=U0.1) (j:=0) I I)<|Bo I I<|Ab I<|BD (s:=31) I h (fun U1 h=>?_) (fun U1 h=>?_)
 refine Aj<|Aj<|Aj<|Aj<|Aj<|Aj<|Bm I I<|Aa<|Ba I<|Ae<|Af I<|Af I<|Aa<|Ap I ?_
 have J2:=BP (α:=Int) u0 L
 refine Aw hb0 func10 I (.cons (.tmp I) (.cons (.tmp I) .nil)) I ?_
 cases h
 exact ⟨u0.ag,fun w9 hw9=>⟨vN,I,u0.kd J2 hw9⟩⟩
 refine Au (Ah I)<|Au (Ah I)<|RG.fg 3 I<|Au (Ay I ((u0.memA .t6) 3 _ I))<|BB (fst:=[]) (cap:=[]) (vs:=[vP g0,vI a1.fc]) (.yes I I) (bd 30) func30 I I I I (e2 I I) I fun z3 x2 H3=>Ae<|Af I<|Aa<|Ai<|du 11 fun q0 y0=>Rv 0 q0 I y0 (fun _=>Ah I)<|Rv 1 q0 I y0 (fun _=>Bw I)<|Rv 2 q0 I y0 (fun _=>Bv 2 I)<|Rx 3 6144 q0 I y0 (Ay I ((u0.memA .hd) 2 _ I))<|Rv 4 q0 I y0 (fun _=>Ah I)<|Rv 5 q0 I y0 (fun _=>Bw I)<|Rv 6 q0 I y0 (fun _=>Bv 0 I)<|Rx 7 6912 q0 I y0 (Ay I ((u0.memA .hd) 0 _ I))<|bk h fun J1 E2 h=>Rv 8 q0 I y0 (fun _=>FV.shlI (a:=(1:Ua)) (i:=p0.1) I I E2)<|Rv 9 q0 I y0 (fun _=>FV.subU (a:=shlU (1:Ua) J1) (b:=(1:Ua)) I I)<|Rv 10 q0 I y0 (fun _=>Ah I)<|bk h fun v1 d3 h=>Bb (i:=11) (rk q0) (RO.callL (m' :=4095) (fst:=[]) (cap:=[vP c0,vP b0]) (sk q0) I I .plain (bd 54) I (e3 I I I) (fun w9 hw9=>ay_c n _ hL p0.2 ([]:Lb ((Ua×Ua)×Int)) (u0.agree hw9) (Ax G1 hw9) (Ax (BP (α:=Ua) u0 L) hw9) ((shlU (1:Ua) J1)-(1:Ua)) d3) I (fun b4 R3 K0 s2 hu_=>?_))
 subst hu_
 refine Bb (i:=12) (rk q0) (Bg (m' :=8191) (sk q0) I .plain I (Bi I) ?_)
 refine AQ (dk q0)<|Ap I<|Aw (u:=vI v1.2) x2 func30 I (.cons (.tmp I) .nil) I<|Au (FV.geq (i:=U0.1) (j:=v1.2) I I)<|Bo I I<|Aa<|AO I h (fun W1 h=>?_) (fun W1 h=>?_)
 refine Ae<|Af I<|Af I<|Aa<|Ap I ?_
 have P2:=BP (α:=Int) K0 L
 refine Aw hb0 func10 I (.cons (.tmp I) (.cons (.tmp I) .nil)) I ?_
 cases h
 exact ⟨K0.ag,fun w9 hw9=>⟨vN,I,K0.kd P2 hw9⟩⟩
 refine Am<|Ae<|Ab I<|Bh 3 I<|AG I ((K0.memA .t6) 3 _ I)<|Ab I<|BB (fst:=[]) (cap:=[]) (vs:=[vP g0,vI a1.fc,vI U0.1]) .plain (bd 34) func34 I I I I (e3 I I I) I fun A3 y2 I3=>Ae<|Af I<|Aa<|MX.scope<|Ae<|Af I<|Aa<|Ae<|Af I<|Aa<|Ai<|MX.label<|Ai<|Ae<|Ab I<|Ac (Bw I)<|Bh 0 I<|AG I ((K0.memA .hd) 0 _ I)<|Ab I<|Aa<|Aq ?_
 have j1:=K0.nilRow 3 (Rep.size Int)
 have u2:=BW K0 3 (Rep.size Int)
 obtain ⟨J3,F2,A2⟩:=ai h
 refine MX.lf (α:=Int×(Lb Ua)×Int×(Lb Int)×(Lb ((Ua×Ua)×Int))×Vc×Vc×(Lb Vc)) (fun ⟨V0,Q0,A0,x0,G0,M0,s0,E0⟩=>[(0,vP g0),(1,vI a1.fc),(2,vI V0),(7,s0),(8,M0),(17,vI p0.1),(18,vI A0)]) (fun ⟨V0,Q0,A0,x0,G0,M0,s0,E0⟩=>[rr w 3 Int s0 x0.length E0,.cells g0 [vI p0.1,v0,.func (.func 54) #[] #[vP c0,vP b0]] 100,.cells b0 [vP g0] 91,.cells c0 [.func (.func 52) #[] #[vP j0,vP b0,vP c0]] 136,.cells j0 [.map (some k0)] 135,.obj k0 (ab (G0:Lb ((Ua×Ua)×Int))),.cells D0 (ae a2) 46,.cells C0 [v1_0,vI a1.fm,vI a1.fh,vI a1.fc] 35,.cells B0 [vI a0.fN,v0_1] 32]) (fun ⟨V0,Q0,A0,x0,G0,M0,s0,E0⟩ u1=>Rep.R u1 (bl [rr w 3 Int s0 x0.length E0,.cells g0 [vI p0.1,v0,.func (.func 54) #[] #[vP c0,vP b0]] 100,.cells b0 [vP g0] 91,.cells c0 [.func (.func 52) #[] #[vP j0,vP b0,vP c0]] 136,.cells j0 [.map (some k0)] 135,.obj k0 (ab (G0:Lb ((Ua×Ua)×Int))),.cells D0 (ae a2) 46,.cells C0 [v1_0,vI a1.fm,vI a1.fh,vI a1.fc] 35,.cells B0 [vI a0.fN,v0_1] 32]++L) [M0] Q0/\Cells u1 (bl [rr w 3 Int s0 x0.length E0,.cells g0 [vI p0.1,v0,.func (.func 54) #[] #[vP c0,vP b0]] 100,.cells b0 [vP g0] 91,.cells c0 [.func (.func 52) #[] #[vP j0,vP b0,vP c0]] 136,.cells j0 [.map (some k0)] 135,.obj k0 (ab (G0:Lb ((Ua×Ua)×Int))),.cells D0 (ae a2) 46,.cells C0 [v1_0,vI a1.fm,vI a1.fh,vI a1.fc] 35,.cells B0 [vI a0.fN,v0_1] 32]++L) E0 x0) (fun ⟨V0,Q0,A0,x0,G0,M0,s0,E0⟩=>(V0,Q0,A0,x0,G0)) (U0.1,([]:Lb Ua),0,([]:Lb Int),v1.1,vN,vN,[]) F2 j1 ⟨(BP (α:=Ua) j1 L),(AD (cs:=[]) (xs:=([]:Lb Int)) j1 L (AK _ _))⟩ ?_
 rintro v3 ⟨V0,Q0,A0,x0,G0,M0,s0,E0⟩ u1 Y1 W0 A1 ⟨H2,D1⟩ h
 unfold aR_l2 at h
 try dsimp only at h
 refine Ae<|Ac (BR (i:=A0) (j:=p0.1) I I)<|Aa<|Ai<|AO I h (fun Q1 h=>?_) (fun Q1 h=>?_)
 refine Am<|Ai<|Aq<|Ae<|Ab I<|Af I<|Aa<|Ai<|du 10 fun z0 F0=>Rv 0 z0 I F0 (fun _=>Ah I)<|Rv 1 z0 I F0 (fun _=>Bw I)<|Rv 2 z0 I F0 (fun _=>Bv 0 I)<|Rx 3 784 z0 I F0 (Ay I ((W0.memA .t1) 0 _ I))<|bk h fun p1 C2 h=>Rv 4 z0 I F0 (fun _=>FV.shlI (a:=(1:Ua)) (i:=p0.1) I I C2)<|Rv 5 z0 I F0 (fun _=>Ah I)<|bk h fun g3 Q2 h=>Rv 6 z0 I F0 (fun _=>Bu (i:=A0) (j:=1) I I Q2)<|bk h fun q1 D2 h=>Rv 7 z0 I F0 (fun _=>FV.shlI (a:=(1:Ua)) (i:=g3) I I D2)<|Rv 8 z0 I F0 (fun _=>FV.subU (a:=shlU (1:Ua) p1) (b:=shlU (1:Ua) q1) I I)<|Rv 9 z0 I F0 (fun _=>Bi I)<|AQ (dk z0)<|Ae<|Af I<|Aa<|Aq ?_
 obtain ⟨K3,G2,B2⟩:=ai h
 refine MX.lf (α:=Int×(Lb Ua)×Int×(Lb ((Ua×Ua)×Int))×Vc) (fun ⟨H0,R0,t0,I0,P0⟩=>[(0,vP g0),(1,vI a1.fc),(2,vI H0),(7,s0),(8,P0),(17,vI p0.1),(18,vI A0),(9,vI A0),(10,vW (((shlU (1:Ua) p1)-(shlU (1:Ua) q1)).toNat:Int)),(11,vI t0)]) (fun ⟨H0,R0,t0,I0,P0⟩=>[rr w 3 Int s0 x0.length E0,.cells g0 [vI p0.1,v0,.func (.func 54) #[] #[vP c0,vP b0]] 100,.cells b0 [vP g0] 91,.cells c0 [.func (.func 52) #[] #[vP j0,vP b0,vP c0]] 136,.cells j0 [.map (some k0)] 135,.obj k0 (ab (I0:Lb ((Ua×Ua)×Int))),.cells D0 (ae a2) 46,.cells C0 [v1_0,vI a1.fm,vI a1.fh,vI a1.fc] 35,.cells B0 [vI a0.fN,v0_1] 32]) (fun ⟨H0,R0,t0,I0,P0⟩ P1=>Rep.R P1 (bl [rr w 3 Int s0 x0.length E0,.cells g0 [vI p0.1,v0,.func (.func 54) #[] #[vP c0,vP b0]] 100,.cells b0 [vP g0] 91,.cells c0 [.func (.func 52) #[] #[vP j0,vP b0,vP c0]] 136,.cells j0 [.map (some k0)] 135,.obj k0 (ab (I0:Lb ((Ua×Ua)×Int))),.cells D0 (ae a2) 46,.cells C0 [v1_0,vI a1.fm,vI a1.fh,vI a1.fc] 35,.cells B0 [vI a0.fN,v0_1] 32]++L) [P0] R0) (fun ⟨H0,R0,t0,I0,P0⟩=>(H0,R0,t0,I0)) (V0,Q0,0,G0,M0) G2 W0 H2 ?_
 rintro x3 ⟨H0,R0,t0,I0,P0⟩ P1 Z1 x1 Y0 H1 h
 unfold aR_l1 at h
 try dsimp only at h
 refine Ai<|Aq<|Ae<|Ab I<|Ab I<|Ab I<|bk h fun u3 b3 h=>jE (bd 32) I (e3 I I I) (fun w9 hw9=>aV_c n (x1.hL hL hw9) (Ax H1 hw9) b3) I fun W3 s3 v2 ⟨M3,hu_,I1⟩=>?_
 subst hu_
 obtain ⟨y1,Z0⟩:=x1.agr v2
 refine Af I<|Aa<|Ae<|Ab I<|Ac (Bw I)<|Bh 2 I<|AG I ((y1.memA .t1) 2 _ I)<|Ab I<|Ab I<|Ab I<|bk h fun b1 c3 h=>?_
 obtain ⟨d2,X0⟩:=AX y1 (.a1 (.a1 (.a1 (.a1 (.a1 .d0)))))
 refine RG.callL (fst:=[]) (cap:=[vP c0,vP b0]) .plain (bd 54) I (e3 I I I) (fun w9 hw9=>ay_c n _ hL p0.2 I0 (d2.agree hw9) (Ax (AB G1 (Tt s2 (Tt u2 (Tt A1 (Tt Y0 (Tt Z0 X0)))))) hw9) (Ax (AB I1 X0) hw9) ((shlU (1:Ua) p1)-(shlU (1:Ua) q1)) c3) I fun X3 Q3 z1 k1 hu_=>?_
 subst hu_
 refine Af I<|Aa<|Ai<|Ae<|Ab I<|Ab I<|Ac (BR (i:=H0) (j:=b1.2) I I)<|Aa<|AO I h (fun V1 h=>?_) (fun V1 h=>?_)
 refine Ae<|Ab I<|Ab I<|Av .plain I (jA t0 (vI t0) z1 qi (e1 I)) fun Y3 y3 c1 B1=>bk h fun t3 X2 h=>RG.doesL .plain I (AL (α:=Int) (ys:=([t0]:Lb Int)) X2 c1 (fun _ _=>.t6) qi I I (Ar D1 (Tt Y0 (Tt Z0 (Tt X0 (Tt k1 B1))))) (Bx (α:=Int) c1 .hd (jC t0 (vI t0) c1 L I))) fun q3 Z3 ⟨X1,g2,p2,z2⟩=>Ab I<|Af I<|Af I<|Aa<|AT I ?_
 have h:=B2 _ h
 try dsimp only at h
 refine Ak<|bk h fun j3 R2 h=>Ac (Bu (i:=A0) (j:=1) I I R2)<|Ab I<|Aa ?_
 obtain ⟨j2,C1⟩:=AX g2 (.a6 .d1)
 have E1:=Tt X0 (Tt k1 (Tt B1 (Tt p2 C1)))
 exact Y1 (H0,u3,j3,t3,b1.1,s3,q3,X1) j2 (Tt A1 (Tt Y0 (Tt Z0 E1))) ⟨(AB I1 E1),(Ar z2 C1)⟩ h
 refine Am<|Ak<|Ab I<|Ab I<|bk h fun k3 U2 h=>Ac (FV.subc (i:=H0) (j:=b1.2) I I U2)<|Af I<|Aa<|Ao<|Ak<|Ab I<|bk h fun p3 V2 h=>Ac (Bu (i:=t0) (j:=1) I I V2)<|Af I<|Aa ?_
 obtain ⟨k2,q2⟩:=AX z1 (.a5 .d0)
 have F1:=Tt Z0 (Tt X0 (Tt k1 q2))
 exact Z1 (k3,R0,p3,b1.1,P0) k2 (Tt Y0 F1) (AB H1 F1) h
 refine AT I ?_
 have h:=A2 _ h
 try dsimp only at h
 refine Ae<|Ab I<|Af I<|Aa<|Ap I<|Aw (u:=s0) y2 func34 I (.cons (.tmp I) .nil) I<|Af I<|Af I<|Aa<|Ap I ?_
 have g1:=BL W0 .hd
 have F3:=BM W0 .hd
 have K2:=BN (α:=Int) (v:=s0) (xs:=x0) g1 L (BA (α:=Int) W0 .hd D1 hL)
 refine Aw hb0 func10 I (.cons (.tmp I) (.cons (.tmp I) .nil)) I ?_
 cases h
 exact ⟨g1.ag,fun w9 hw9=>⟨s0,I,g1.kd K2 hw9⟩⟩
 refine Aj<|Aj<|Bm I I<|Ab I<|Aj<|Aj<|Aj<|Aj<|Aj<|Aj<|Bm I I<|Aa<|Ba I<|Ae<|Af I<|Af I<|Aa<|Ap I ?_
 have M2:=BP (α:=Int) u0 L
 refine Aw hb0 func10 I (.cons (.tmp I) (.cons (.tmp I) .nil)) I ?_
 cases h
 exact ⟨u0.ag,fun w9 hw9=>⟨vN,I,u0.kd M2 hw9⟩⟩

def ax_l1 (_n:Nat) (a0:Lb Int) (a1:Lb Int) (b0:Nat->Oa (Bool⊕Unit)):Nat->Oa (Bool⊕Unit)
  | i32=>(if i32<a0.length then (a0[i32]?).bind fun c0=>(a1[i32]?).bind fun d0=>(if c0=d0 then b0 (i32+1) else some (.inl false)) else some (.inr ()))
def ax_p (n:Nat) (a0:Lb Int) (a1:Lb Int):Oa Bool:=
  (if a0.length=a1.length then thn (ah (ax_l1 n a0 a1) n 0) (fun _=>some true) else some false)
theorem ax_c (n:Nat) {L w} (_hL:hl L w) {a0:Lb Int} {v0_0:Vc} (h0_0:Rep.R w L [v0_0] a0) {a1:Lb Int} {v1_0:Vc} (h1_0:Rep.R w L [v1_0] a1)  {r:Bool} (h:ax_p n a0 a1=some r) :
 Cl 11 #[v0_0,v1_0] w (aj w fun _ u=>u=.bool r):=by
 unfold ax_p at h
 have hS0:=AI w
 refine AJ func11 I I I fun _ cs0 hb0=>Ae<|Af I<|Aa<|Ai<|Ae<|Ab I ?_
 have hl1:=AY h0_0
 refine Ac (Bf (xs:=a0) underlying36 I h0_0)<|Ab I ?_
 have hl2:=AY h1_0
 refine Ac (Bf (xs:=a1) underlying36 I h1_0)<|Ac (FV.neqN (i:=a0.length) (j:=a1.length) I I)<|Aa<|MX.ifn I h (fun c3 h=>?_) (fun c3 h=>?_)
 refine Am<|Ai<|Ae<|Ab I<|Ac (Bf (xs:=a0) underlying36 I h0_0)<|Ab I<|Aa<|Aq<|tn h fun U0 F0 g0=>MX.lo (α:=Nat) (fun i32=>[(0,v0_0),(1,v1_0),(12,vn a0.length),(13,vn i32)]) (fun i32=>[]) (fun i32=>i32) 0 F0 hS0 ?_
 rintro P0 i32 V0 u0 d0 v0 h
 unfold ax_l1 at h
 try dsimp only at h
 refine Ae<|Ac (Bp (i:=i32) (j:=a0.length) I I)<|Aa<|Ai<|AO I h (fun p0 h=>?_) (fun p0 h=>?_)
 refine Am<|Ai<|Aq<|Ae<|Ab I<|Af I<|Aa<|Ai<|du 9 fun b0 c0=>Rv 0 b0 I c0 (fun _=>Ah I)<|Rv 1 b0 I c0 (fun _=>Ah I)<|bk h fun j0 I0 h=>?_
 obtain ⟨K0,Q0,x0,B0,s0,G0,D0⟩:=Bq (AH h0_0 d0) I0
 have y0:s0=[vI j0]:=G0; subst y0
 refine Rv 2 b0 I c0 (fun _=>AU 1 i32 I x0 I I B0)<|Rx 3 256 b0 I c0 (Ay I (D0 0 _ I))<|Rv 4 b0 I c0 (fun _=>Ah I)<|Rv 5 b0 I c0 (fun _=>Ah I)<|bk h fun k0 J0 h=>?_
 obtain ⟨M0,R0,z0,C0,t0,H0,E0⟩:=Bq (AH h1_0 d0) J0
 have A0:t0=[vI k0]:=H0; subst A0
 refine Rv 6 b0 I c0 (fun _=>AU 1 i32 I z0 I I C0)<|Rx 7 256 b0 I c0 (Ay I (E0 0 _ I))<|Rv 8 b0 I c0 (fun _=>FV.neq (i:=j0) (j:=k0) I I)<|AQ (dk b0)<|MX.ifn I h (fun q0 h=>?_) (fun q0 h=>?_)
 refine Am<|Ao<|Ak<|Ac (AW (i:=i32) (j:=1) I I (by omega))<|Ab I<|Aa<|u0 (i32+1) d0 v0 h
 refine Ae<|Af I<|Aa ?_
 have h:=aO h g0
 refine Ap I<|AV hb0 func11 I I ?_
 cases h
 exact d0.gv
 refine AT I ?_
 have h:=bD h g0
 try dsimp only at h
 refine Ae<|Af I<|Aa<|Ap I<|AV hb0 func11 I I ?_
 cases h
 exact d0.gv
 refine Ae<|Af I<|Aa<|Ap I<|AV hb0 func11 I I ?_
 cases h
 exact hS0.gv
def aB_l1 (n:Nat) (k0:(Lb (Lb Int))×(Lb (Lb Ta))×Int) (c0:Tc×Td×(Lb Int)) (D0:(U8)×Int) (p0:Nat×U8->Oa (Bool⊕Unit)):Nat×U8->Oa (Bool⊕Unit)
  | (d0,q0,s0,t0,u0,v0,x0,y0,z0)=>(if d0<k0.1.length then (k0.1[d0]?).bind fun g0=>(aJ_p n c0.1 c0.2.1 g0).bind fun b0=>(aR_p n c0.1 c0.2.1 b0.1).bind fun j0=>(if b0.2=0 then (if j0.2=0 then (ax_p n j0.1 g0).bind fun A0=>(if A0=true then (cq_p n (q0,s0,t0,u0,v0,x0,y0,z0) b0.1).bind fun B0=>(if 0<=B0 then some (.inl false) else (cq_p n b0.1 D0.1).bind fun C0=>(if 0<=C0 then some (.inl false) else p0 (d0+1,b0.1.1,b0.1.2.1,b0.1.2.2.1,b0.1.2.2.2.1,b0.1.2.2.2.2.1,b0.1.2.2.2.2.2.1,b0.1.2.2.2.2.2.2.1,b0.1.2.2.2.2.2.2.2))) else some (.inl false)) else some (.inl false)) else some (.inl false)) else some (.inr ()))
def aB_p (n:Nat) (a0:Tf):Oa Bool:=
  (ab_p n a0).bind fun c0=>(av_p n c0.1 c0.2.1 c0.2.2).bind fun d0=>(if d0.2.2=0 then (bV_p n c0.1 c0.2.1).bind fun g0=>(if g0.2=0 then (if d0.1.length=0 then some false else (bK_p n ((d0.1.length:Nat):Int)).bind fun j0=>(cq_p n j0 g0.1).bind fun k0=>(if 0<k0 then some false else (bK_p n (-1:Int)).bind fun b0=>thn (ah (aB_l1 n d0 c0 g0) n (0,b0.1,b0.2.1,b0.2.2.1,b0.2.2.2.1,b0.2.2.2.2.1,b0.2.2.2.2.2.1,b0.2.2.2.2.2.2.1,b0.2.2.2.2.2.2.2)) (fun _=>some true))) else some false) else some (decide (d0.2.2=3)))
theorem aB_c (n:Nat) {L w} (hL:hl L w) (a0:Tf) {v0_3:Vc} (h0_3:Rep.R w L [v0_3] a0.fv.fC) {v0_4:Vc} (h0_4:Rep.R w L [v0_4] a0.fu) {v0_5:Vc} (h0_5:Rep.R w L [v0_5] a0.fCuts) (hG0:Glob 0 tab0 w)  {r:Bool} (h:aB_p n a0=some r) :
 Cl 3 #[.agg #[.int .u8 (a0.fv.fw.toNat:Int),.int .u8 (a0.fv.fh.toNat:Int),.int .u16 (a0.fv.fA.toNat:Int),v0_3,v0_4,v0_5,.int .u8 (a0.fc.toNat:Int),.int .u8 (a0.fy.1.toNat:Int),.int .u8 (a0.fy.2.toNat:Int),.int .u8 (a0.fTree.toNat:Int)]] w (aj w fun _ u=>u=.bool r):=by
 unfold aB_p at h
 refine AJ func3 I I I fun _ cs0 hb0=>Ae<|RG.bx (AI w) I I fun I3 p3 x0 v3=>Af I<|Aa<|Ae<|Ac (AP I (x0.memA .hd))<|bk h fun g0 M2 h=>jE (bd 4) I (e1 I) (fun p q=>ab_c n (x0.hL hL q) a0 (x0.km h0_3 q) (x0.km h0_4 q) (x0.km h0_5 q) M2) I fun J3 F3 A2 ⟨B1,C1,B3,hu_,M0,P0,J2⟩=>?_
 subst hu_
 obtain ⟨X1,x3⟩:=x0.agr A2
 refine Ab I<|Ac (Al I I)<|Ac (Al I I)<|Ac (Al I I)<|RG.nl [vI 0,vN] X1 fun R3 X0 d2 Q0=>RG.nl [vN,vI 0,vI 0,vI 0] d2 fun U3 Y0 g2 R0=>Bl [vI g0.1.fN,B1] g2 .t1 (o2 I (Bs (AB M0 (Tt Q0 R0)))) fun V3 j2 k1=>?_
 have K0:=Tt Q0 (Tt R0 k1)
 refine Bl [C1,vI g0.2.1.fm,vI g0.2.1.fh,vI g0.2.1.fc] j2 .hd (o4 (Bs (AB P0 K0)) I I I) fun W3 I0 J0=>Af I<|Aa<|Ae<|Ac (AP I (I0.memA .t1))<|Ac (AP I (I0.memA .hd))<|Ab I<|bk h fun s0 W2 h=>jE (bd 5) I (e3 I I I) (fun p q=>av_c n (I0.hL hL q) g0.1 (Ax (AB M0 (Tt K0 J0)) q) g0.2.1 (Ax (AB P0 (Tt K0 J0)) q) (Ax (AB J2 (Tt K0 J0)) q) (hG0.keep (I0.ag.trans q)) W2) I fun X3 H3 C2 ⟨c3,E3,hu_,W0,z3⟩=>?_
 subst hu_
 obtain ⟨t0,p1⟩:=I0.agr C2
 refine Ab I<|Ac (Al I I)<|Ac (Al I I)<|Ac (Al I I)<|Af I<|Af I<|Af I<|Aa<|Ai<|Ae<|Ab I<|Ac (FV.neq (i:=s0.2.2) (j:=0) I I)<|Aa<|MX.ifn I h (fun Q1 h=>?_) (fun Q1 h=>?_)
 refine Am<|Ae<|Ac (AP I (t0.memA .t1))<|Ac (AP I (t0.memA .hd))<|bk h fun v0 X2 h=>?_
 have y1:=Tt K0 (Tt J0 p1)
 refine Bz (.tuple #[.agg ((ae v0.1)).toArray,vI v0.2]) (bd 6) I (e2 I I) (fun p q=>bV_c n (t0.hL0 hL q) g0.1 (t0.kd (AB M0 y1) q) g0.2.1 (t0.kd (AB P0 y1) q) (hG0.keep (t0.ag.trans q)) X2) I<|Ab I<|Ac (Al I I)<|Ac (Al I I)<|RG.nl zP t0 fun Y3 Z0 k2 q1=>Bl (ae v0.1) k2 .hd (aC I) fun Z3 u0 s1=>Af I<|Aa<|Ai<|Ai<|du 15 fun b0 c0=>Rv 0 b0 I c0 (fun _=>Ah I)<|Rv 1 b0 I c0 (fun _=>FV.neq (i:=v0.2) (j:=0) I I)<|Rv 2 b0 I c0 (fun _=>Ah I)<|RD.ifn (s:=44) I h (fun R1 h=>?_) (fun R1 h=>?_)
 refine RD.vP 3 15 b0 I c0 (.yes I I) (fun _=>Ah I) I ?_
 have U0:=AB W0 (Tt q1 s1)
 have y3:=AY U0
 refine RD.val (i:=4) (m' :=31) (W:=32736) (tk b0) I c0 (.yes I I) (Bf (xs:=s0.1) underlying39 I U0) I<|RD.vP 5 63 b0 I c0 (.yes I I) (fun _=>FV.eqlN (i:=s0.1.length) (j:=0) I I) I<|Rv 6 b0 I c0 (fun _=>BS I I)<|Rv 7 b0 I c0 (fun _=>Ah I)<|RD.ifd (s:=49) I h (fun U1 h=>?_) (fun U1 h=>?_)
 refine RD.offs 16383 1 [(8,50),(9,51),(10,52),(11,53),(12,54),(13,55)] (F:=[(49,true)]) (U:=[]) b0 c0 (.cons I .nil) .nil ?_
 dsimp only [gl,List.map]
 refine Rv 14 b0 I c0 (fun _=>BJ I I)<|AQ (dk b0)<|Ba I<|Ae<|Af I<|Aa<|Ap I<|AV hb0 func3 I I ?_
 cases h
 exact u0.gv
 refine RD.vP 8 511 b0 I c0 (.yes I I) (fun _=>Ah I) I<|RD.val (i:=9) (m' :=1023) (W:=29696) (tk b0) I c0 (.yes I I) (Bf (xs:=s0.1) underlying39 I U0) I<|bk h fun F1 Y2 h=>RD.callq (i:=10) (m' :=2047) (W:=28672) (tk b0) I c0 (v:=.agg ((ae F1)).toArray) (fst:=[]) (cap:=[]) (.yes I I) (bd 8) I (e1 I) (fun p q=>bK_c n (u0.hL0 hL q)  Y2) I<|RD.val (i:=11) (m' :=4095) (W:=28672) (tk b0) I c0 (.yes I I) (AP I (u0.memA .hd)) I<|bk h fun G1 Z2 h=>RD.callq (i:=12) (m' :=8191) (W:=24576) (tk b0) I c0 (v:=vI G1) (fst:=[]) (cap:=[]) (.yes I I) (bd 7) I (e2 I I) (fun p q=>cq_c n (u0.hL0 hL q) F1 v0.1 Z2) I<|RD.vP 13 16383 b0 I c0 (.yes I I) (fun _=>FV.gtr (i:=G1) (j:=0) I I) I<|Rv 14 b0 I c0 (fun _=>BS I I)<|AQ (dk b0)<|AO I h (fun V1 h=>?_) (fun V1 h=>?_)
 refine Ae<|Af I<|Aa<|Ap I<|AV hb0 func3 I I ?_
 cases h
 exact u0.gv
 refine Am<|Ae<|bk h fun k0 b3 h=>Bz (.agg ((ae k0)).toArray) (bd 8) I (e1 I) (fun p q=>bK_c n (u0.hL0 hL q)  b3) I<|RG.nl zP u0 fun b4 b1 p2 y2=>Bl (ae k0) p2 .hd (aC I) fun c4 q2 z2=>Aa<|Ai<|Ae<|Ab I ?_
 have z1:=Tt q1 (Tt s1 (Tt y2 z2))
 refine Ac (Bf (xs:=s0.1) underlying39 I (AB W0 z1))<|Ab I<|Aa<|Aq ?_
 obtain ⟨Y1,s2⟩:=AX q2 (.a0 (.a0 (.a0 (.a0 .done))))
 refine tn h fun A3 G2 z0=>MX.lo (α:=Nat×U8) (fun ⟨q0,A0,B0,C0,D0,E0,F0,G0,H0⟩=>[(3,vP X0),(4,vP Y0),(9,vP Z0),(11,vP b1),(58,c3),(59,vn s0.1.length),(60,vn q0)]) (fun ⟨q0,A0,B0,C0,D0,E0,F0,G0,H0⟩=>[.cells b1 [vU A0,vU B0,vU C0,vU D0,vU E0,vU F0,vU G0,vU H0] 46,.cells Z0 (ae v0.1) 46,.cells Y0 [C1,vI g0.2.1.fm,vI g0.2.1.fh,vI g0.2.1.fc] 35,.cells X0 [vI g0.1.fN,B1] 32]) (fun ⟨q0,A0,B0,C0,D0,E0,F0,G0,H0⟩=>(q0,A0,B0,C0,D0,E0,F0,G0,H0)) (0,k0.1,k0.2.1,k0.2.2.1,k0.2.2.2.1,k0.2.2.2.2.1,k0.2.2.2.2.2.1,k0.2.2.2.2.2.2.1,k0.2.2.2.2.2.2.2) G2 Y1 ?_
 rintro k3 ⟨q0,A0,B0,C0,D0,E0,F0,G0,H0⟩ d4 W1 p0 c1 h
 unfold aB_l1 at h
 try dsimp only at h
 refine Ae<|Ac (Bp (i:=q0) (j:=s0.1.length) I I)<|Aa<|Ai<|AO I h (fun H1 h=>?_) (fun H1 h=>?_)
 refine Am<|Ai<|Aq<|Ae<|bk h fun g4 K2 h=>?_
 have u1:=Tt z1 (Tt s2 c1)
 obtain ⟨j3,s3,D2,E2,u3,H2,F2⟩:=Bq (AB W0 u1) K2
 obtain ⟨C3,rfl,A1⟩:=bX H2
 refine Ac (AU 1 q0 I D2 I I E2)<|AG I (F2 0 _ I)<|Af I<|Aa<|Ae<|Ac (AP I (p0.memA .t3))<|Ac (AP I (p0.memA .t2))<|Ab I<|bk h fun j0 P2 h=>?_
 have V0:=Tt Q0 (Tt R0 (Tt k1 (Tt J0 (Tt p1 u1))))
 refine Bz (.tuple #[.agg ((ae j0.1)).toArray,vI j0.2]) (bd 9) I (e3 I I I) (fun p q=>aJ_c n (p0.hL0 hL q) g0.1 (p0.kd (AB M0 V0) q) g0.2.1 (p0.kd (AB P0 V0) q) (p0.kd A1 q) (hG0.keep (p0.ag.trans q)) P2) I<|Ab I<|Ac (Al I I)<|Ac (Al I I)<|RG.nl zP p0 fun K3 q3 Z1 g1=>Bl (ae j0.1) Z1 .hd (aC I) fun M3 y0 j1=>Af I<|Aa<|Ae<|Ac (AP I (y0.memA .t4))<|Ac (AP I (y0.memA .t3))<|Ac (AP I (y0.memA .hd))<|bk h fun d3 Q2 h=>?_
 have v1:=Tt V0 (Tt g1 j1)
 refine jE (bd 10) I (e3 I I I) (fun p q=>aR_c n (y0.hL hL q) g0.1 (Ax (AB M0 v1) q) g0.2.1 (Ax (AB P0 v1) q) j0.1 (hG0.keep (y0.ag.trans q)) Q2) I fun P3 G3 B2 ⟨D3,hu_,I2⟩=>?_
 subst hu_
 obtain ⟨d0,u2⟩:=y0.agr B2
 refine Ab I<|Ac (Al I I)<|Ac (Al I I)<|Af I<|Af I<|Aa<|Ai<|Ai<|Ak<|Ab I<|Ac (FV.neq (i:=j0.2) (j:=0) I I)<|Ab I<|RG.ifn (s:=80) I h (fun I1 h=>?_) (fun I1 h=>?_)
 refine Au (Ah I)<|Au (FV.neq (i:=d3.2) (j:=0) I I)<|Bo I I<|Ab I<|RG.ifn (s:=84) I h (fun J1 h=>?_) (fun J1 h=>?_)
 refine Au (Ah I)<|Au (Ah I)<|bk h fun g3 R2 h=>?_
 have x1:=Tt g1 (Tt j1 u2)
 refine RG.callq' (v:=.bool g3) (fst:=[]) (cap:=[]) (.yes I I) (bd 11) I (e2 I I) (fun p q=>ax_c n (d0.hL0 hL q) (d0.kd I2 q) (d0.kd (AB A1 x1) q) R2) I<|Au (BV I)<|Bo I I<|Ab I<|RG.ifnb (s:=90) I h (fun K1 h=>?_) (fun K1 h=>?_)
 refine Au (AP I (d0.memA .t1))<|Au (AP I (d0.memA .hd))<|bk h fun D1 U2 h=>RG.callq' (v:=vI D1) (fst:=[]) (cap:=[]) (.yes I I) (bd 7) I (e2 I I) (fun p q=>cq_c n (d0.hL0 hL q) (A0,B0,C0,D0,E0,F0,G0,H0) j0.1 U2) I<|Au (FV.geq (i:=D1) (j:=0) I I)<|Bo I I<|Ab I<|BD (s:=96) I h (fun M1 h=>?_) (fun M1 h=>?_)
 refine Aj<|Aj<|Aj<|Aj<|Bm I I<|Aa<|Ba I<|Ae<|Af I<|Aa ?_
 have h:=aO h z0
 refine Ap I<|AV hb0 func3 I I ?_
 cases h
 exact d0.gv
 refine Au (AP I (d0.memA .hd))<|Au (AP I (d0.memA .t2))<|bk h fun E1 V2 h=>RG.callq' (v:=vI E1) (fst:=[]) (cap:=[]) (.yes I I) (bd 7) I (e2 I I) (fun p q=>cq_c n (d0.hL0 hL q) j0.1 v0.1 V2) I<|Au (FV.geq (i:=E1) (j:=0) I I)<|Bo I I<|Aa<|AO I h (fun P1 h=>?_) (fun P1 h=>?_)
 refine Ae<|Af I<|Aa ?_
 have h:=aO h z0
 refine Ap I<|AV hb0 func3 I I ?_
 cases h
 exact d0.gv
 refine Am<|Ak<|Ac (AP I (d0.memA .hd))<|Bl (ae j0.1) d0 .t1 (aC I) fun Q3 b2 v2=>Aa<|Ao<|Ak<|Ac (AW (i:=q0) (j:=1) I I (by omega))<|Ab I<|Aa ?_
 obtain ⟨c2,x2⟩:=AX b2 .d1
 exact W1 (q0+1,j0.1.1,j0.1.2.1,j0.1.2.2.1,j0.1.2.2.2.1,j0.1.2.2.2.2.1,j0.1.2.2.2.2.2.1,j0.1.2.2.2.2.2.2.1,j0.1.2.2.2.2.2.2.2) c2 (Tt c1 (Tt x1 (Tt v2 x2))) h
 refine Aj<|Aj<|Aj<|Aj<|Bm I I<|Ab I<|Aj<|Aj<|Aj<|Aj<|Bm I I<|Aa<|Ba I<|Ae<|Af I<|Aa ?_
 have h:=aO h z0
 refine Ap I<|AV hb0 func3 I I ?_
 cases h
 exact d0.gv
 refine Aj<|Aj<|Aj<|Aj<|Bm I I<|Ab I<|Aj<|Aj<|Aj<|Aj<|Bm I I<|Ab I<|Aj<|Aj<|Aj<|Aj<|Bm I I<|Aa<|Ba I<|Ae<|Af I<|Aa ?_
 have h:=aO h z0
 refine Ap I<|AV hb0 func3 I I ?_
 cases h
 exact d0.gv
 refine Aj<|Aj<|Bm I I<|Ab I<|Aj<|Aj<|Aj<|Aj<|Bm I I<|Ab I<|Aj<|Aj<|Aj<|Aj<|Bm I I<|Ab I<|Aj<|Aj<|Aj<|Aj<|Bm I I<|Aa<|Ba I<|Ae<|Af I<|Aa ?_
 have h:=aO h z0
 refine Ap I<|AV hb0 func3 I I ?_
 cases h
 exact d0.gv
 refine AT I ?_
 have h:=bD h z0
 try dsimp only at h
 refine Ae<|Af I<|Aa<|Ap I<|AV hb0 func3 I I ?_
 cases h
 exact p0.gv
 refine RD.offs 63 9 [(3,45),(4,46),(5,47)] (F:=[(44,true)]) (U:=[]) b0 c0 (.cons I .nil) .nil ?_
 dsimp only [gl,List.map]
 refine Rv 6 b0 I c0 (fun _=>BJ I I)<|Rv 7 b0 I c0 (fun _=>Ah I)<|RD.offs 16383 1 [(8,50),(9,51),(10,52),(11,53),(12,54),(13,55)] (F:=[(49,true)]) (U:=[]) b0 c0 (.cons I .nil) .nil ?_
 dsimp only [gl,List.map]
 refine Rv 14 b0 I c0 (fun _=>BJ I I)<|AQ (dk b0)<|Ba I<|Ae<|Af I<|Aa<|Ap I<|AV hb0 func3 I I ?_
 cases h
 exact u0.gv
 refine Ae<|Ab I<|Ac (BT (i:=s0.2.2) (j:=3) I I)<|Af I<|Aa<|Ap I<|AV hb0 func3 I I ?_
 cases h
 exact t0.gv
end Go.Proofs.YtkimkkgicmipbaaGreatDoor
