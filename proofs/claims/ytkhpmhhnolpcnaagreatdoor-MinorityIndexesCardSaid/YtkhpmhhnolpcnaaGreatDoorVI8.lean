import Derived.Test.YtkhpmhhnolpcnaaGreatDoorVI6
namespace Go.Proofs.YtkhpmhhnolpcnaaGreatDoor
open Go Go.RowKit Tryz
set_option maxRecDepth 4000
set_option maxHeartbeats 4000000

def ah_l1 (_n:Nat) (c0:(List Int) × Int) (g0:Int × Nat -> Option Int):Int × Nat -> Option Int
  | (d0,b0)=>(if b0 < c0.1.length then (c0.1[b0]?).bind fun k0=>(chk (k0 + 1)).bind fun j0=>g0 (max d0 j0,b0 + 1) else some d0)
def ah_l2 (n:Nat) (a0:Ti) (d0:Int × (List Int) -> Option (List Int)):Int × (List Int) -> Option (List Int)
  | (b0,c0)=>(bp_p n a0).bind fun p0=>(if b0 < p0 then (aX_p n a0 b0).bind fun q0=>(dj q0 ((1 + ((a0.fK % (8:UInt8)).toNat):Nat):Int)).bind fun j0=>(app c0 ([j0]:List Int)).bind fun k0=>(chk (b0 + 1)).bind fun g0=>d0 (g0,k0) else some c0)
def ah_p (n:Nat) (a0:Ti):Option ((List Int) × Int):=
  Option.bind (ao (ah_l2 n a0) n (0,([]:List Int))) (fun c0=>(aL_p n c0).bind fun b0=>Option.bind (ao (ah_l1 n b0) n (0,0)) (fun d0=>some (b0.1,d0)))
theorem ah_c (n:Nat) {L w} (hL:hl L w) (a0:Ti) {v0_1:Value} (h0_1:Rep.R w L [v0_1] a0.fJ) {v0_2:Value} (h0_2:Rep.R w L [v0_2] a0.fMore) {v0_3:Value} (h0_3:Rep.R w L [v0_3] a0.fLabels)  {r:(List Int) × Int} (h:ah_p n a0 = some r) :
 Cl 5 #[.agg #[.int .u8 (a0.fN.toNat:Int),v0_1,v0_2,v0_3,.int .u8 (a0.fK.toNat:Int)]] w (aj w fun w' u=>∃ v0_0:Value,u = .tuple #[v0_0,vI r.2]/\Rep.R w' L [v0_0] r.1):=by
 unfold ah_p at h
 refine AG func5 rfl rfl rfl fun _ cs0 hb0=>Ac<|RG.bx (AB w) rfl rfl fun u2 x0 C0 d2=>Ag rfl<|Ag rfl<|Aa<|Ac<|Ag rfl<|Aa<|Aj<|Ac<|Ag rfl<|Aa<|Ay ?_
 have D0:=C0.nilRow 3 (Rep.size Int)
 have g2:=St.nilRowT C0 3 (Rep.size Int)
 obtain ⟨q2,C1,y1⟩:=ax h
 refine MX.lf (α:=Int × (List Int) × Value × (List Value)) (fun ⟨q0,j0,p0,s0⟩=>[(1,vP x0),(4,p0),(5,vI q0)]) (fun ⟨q0,j0,p0,s0⟩=>[rr w 3 Int p0 j0.length s0,.cells x0 [.int .u8 (a0.fN.toNat:Int),v0_1,v0_2,v0_3,.int .u8 (a0.fK.toNat:Int)] 25]) (fun ⟨q0,j0,p0,s0⟩ K0=>Cells K0 (bl [rr w 3 Int p0 j0.length s0,.cells x0 [.int .u8 (a0.fN.toNat:Int),v0_1,v0_2,v0_3,.int .u8 (a0.fK.toNat:Int)] 25] ++ L) s0 j0) (fun ⟨q0,j0,p0,s0⟩=>(q0,j0)) (0,([]:List Int),vN,[]) C1 D0 (AH (cs:=[]) (xs:=([]:List Int)) D0 L (AR _ _)) ?_
 rintro X1 ⟨q0,j0,p0,s0⟩ K0 Y0 c0 p1 H0 h
 unfold ah_l2 at h
 try dsimp only at h
 refine Aj<|Ac<|Ae rfl<|Ab (AC rfl (c0.memA .t1))<|bk h fun P0 M1 h=>Bi (vI P0) (bd 22) rfl (e1 rfl) (fun p q=>bp_c n (c0.hL0 hL q) a0 (c0.k0 h0_1 q) (c0.k0 h0_2 q) (c0.k0 h0_3 q) M1) rfl<|Ab (FV.lss (i:=q0) (j:=P0) rfl rfl)<|Aa<|AW rfl h (fun U0 h=>?_) (fun U0 h=>?_)
 refine Au<|Aj<|Ay<|du 11 fun b0 d0=>Rv 0 b0 rfl d0 (fun _=>Ak rfl)<|Rx 1 7688 b0 rfl d0 (AC rfl (c0.memA .t1))<|Rv 2 b0 rfl d0 (fun _=>Ak rfl)<|bk h fun Q0 P1 h=>BD 3 15 7680 (vI Q0) b0 rfl d0 (bd 23) rfl (e2 rfl rfl) (fun p q=>aX_c n (c0.hL0 hL q) a0 (c0.k0 h0_1 q) (c0.k0 h0_2 q) (c0.k0 h0_3 q) P1) rfl<|Rv 4 b0 rfl d0 (fun _=>AP 4 rfl)<|Rx 5 8128 b0 rfl d0 (AQ rfl ((c0.memA .t1) 4 _ rfl))<|Rv 6 b0 rfl d0 (fun _=>FV.rem8 (a:=a0.fK) (b:=(8:UInt8)) rfl rfl (by decide)) ?_
 have k2:=(a0.fK % (8:UInt8)).toNat_lt
 refine Rv 7 b0 rfl d0 (fun _=>FV.convN (i:=(a0.fK % (8:UInt8)).toNat) underlying5 underlying3 rfl (by omega))<|Rv 8 b0 rfl d0 (fun _=>Bp (i:=1) (j:=(a0.fK % (8:UInt8)).toNat) rfl rfl (by omega))<|bk h fun t0 H1 h=>Rv 9 b0 rfl d0 (fun _=>FV.remc (i:=Q0) (j:=((1 + ((a0.fK % (8:UInt8)).toNat):Nat):Int)) rfl rfl H1)<|RD.nu 10 2047 b0 rfl .plain rfl (jA t0 (vI t0) c0 iH (e1 rfl)) fun x2 Y1 y0 E0=>bk h fun U1 J1 h=>AM (i:=11) (rk b0) (RO.doesL (m' :=4095) (sk b0) rfl rfl .plain rfl (DoesL.app (α:=Int) (ys:=([t0]:List Int)) J1 y0 (fun _ _=>.t1) iH rfl rfl (AN H0 E0) (Src.row (α:=Int) y0 .hd (jC t0 (vI t0) y0 L rfl))) (fun R1 t2 ⟨V0,Z0,j1,s1⟩=>?_))
 refine AM (i:=12) (rk b0) (Bd (m' :=8191) (sk b0) rfl .plain rfl (Ba rfl) ?_)
 refine AJ (dk b0)<|AE<|Am<|Ae rfl<|bk h fun Q1 F1 h=>Ab (BH (i:=q0) (j:=1) rfl rfl F1)<|Ag rfl<|Aa ?_
 obtain ⟨b1,F0⟩:=AF Z0 .d1
 exact Y0 (Q1,U1,R1,V0) b1 (Tt p1 (Tt E0 (Tt j1 F0))) (AN s1 F0) h
 refine Bf rfl ?_
 have h:=y1 _ h
 try dsimp only at h
 refine Ac<|Ae rfl ?_
 have z0:=BI c0 .hd
 have b2:=BJ c0 .hd
 refine bk h fun B0 K1 h=>jE (bd 24) rfl (e1 rfl) (fun p q=>aL_c n (z0.hL hL q) (Av (BK (α:=Int) (v:=p0) (xs:=j0) z0 L (Bv (α:=Int) c0 .hd H0 hL)) q) K1) rfl fun v2 s2 q1 ⟨J0,hu_,D1⟩=>?_
 subst hu_
 obtain ⟨c1,c2⟩:=z0.agr q1
 refine Ae rfl<|Ab (Ah rfl rfl)<|Ab (Ah rfl rfl)<|Ag rfl<|Aa<|Ac<|Ag rfl<|Aa<|Aj<|Ac<|Ag rfl<|Aa<|Ay ?_
 obtain ⟨g1,k1⟩:=AF c1 .done
 obtain ⟨p2,B1,x1⟩:=ax h
 refine MX.lo (α:=Int × Nat) (fun ⟨u0,g0⟩=>[(4,J0),(6,vI u0),(7,vI ((g0:Nat):Int))]) (fun ⟨u0,g0⟩=>[]) (fun ⟨u0,g0⟩=>(u0,g0)) (0,0) B1 g1 ?_
 rintro W1 ⟨u0,g0⟩ y2 X0 A0 G0 h
 unfold ah_l1 at h
 try dsimp only at h
 refine Aj<|Ac<|Ae rfl<|Ae rfl ?_
 have v0:=Az D1 (Tt k1 G0)
 have j2:B0.1.length <= 281474976710656:=Bh v0
 refine Ab (Bl (xs:=B0.1) underlying30 rfl v0)<|Ab (Bn (i:=g0) (j:=B0.1.length) rfl rfl)<|Aa<|AW rfl h (fun R0 h=>?_) (fun R0 h=>?_)
 refine Au<|Aj<|Ay<|Am<|Ae rfl<|Ae rfl<|Ae rfl<|bk h fun M0 I1 h=>?_
 obtain ⟨V1,Z1,u1,z1,W0,E1,A1⟩:=Br v0 I1
 have v1:W0 = [vI M0]:=E1; subst v1
 refine Ab (Bu 1 g0 rfl u1 rfl rfl z1)<|AU rfl (A1 0 _ rfl)<|bk h fun I0 G1 h=>Ab (BH (i:=M0) (j:=1) rfl rfl G1)<|Ab (FV.max2 (i:=u0) (j:=I0) rfl rfl)<|Ag rfl<|Aa<|AE<|Am<|Ae rfl<|Ab (Bp (i:=g0) (j:=1) rfl rfl (by omega))<|Ag rfl<|Aa<|X0 (max u0 I0,g0 + 1) A0 G0 h
 refine Bf rfl ?_
 have h:=x1 _ h
 try dsimp only at h
 refine Ac<|Ae rfl<|Ae rfl<|Ag rfl<|Ag rfl<|Aa<|Ao rfl<|Ap hb0 func5 rfl (.cons (.tmp rfl) (.cons (.tmp rfl) .nil)) rfl ?_
 cases h
 exact ⟨A0.ag,fun p q=>⟨J0,rfl,A0.kd v0 q⟩⟩
structure Th where
  fj:UInt8
  fh:UInt8
  fl:UInt8
  fv:UInt8
  fNums:List UInt8
  deriving DecidableEq
instance:Rep Th:=Rep.via (β:=UInt8 × UInt8 × UInt8 × UInt8 × (List UInt8)) fun x=>(x.fj,x.fh,x.fl,x.fv,x.fNums)
def aD_p (_n:Nat) (a0:Th) (a1:Int):Option Int:=
  (if a0.fNums.length = 0 then some (1:Int) else (dj a1 ((a0.fNums.length:Nat):Int)).bind fun b0=>(idx a0.fNums b0).bind fun c0=>some ((c0.toNat:Nat):Int))
theorem aD_c (n:Nat) {L w} (_hL:hl L w) (a0:Th) {v0_4:Value} (h0_4:Rep.R w L [v0_4] a0.fNums) {a1:Int}  {r:Int} (h:aD_p n a0 a1 = some r) :
 Cl 62 #[.agg #[.int .u8 (a0.fj.toNat:Int),.int .u8 (a0.fh.toNat:Int),.int .u8 (a0.fl.toNat:Int),.int .u8 (a0.fv.toNat:Int),v0_4],vI a1] w (aj w fun _ u=>u = vI r):=by
 unfold aD_p at h
 refine AG func62 rfl rfl rfl fun _ cs0 hb0=>Ac<|RG.bx (AB w) rfl rfl fun I0 D0 d0 F0=>Ag rfl<|Aa<|Aj<|Ac<|Bg 4 rfl<|AU rfl ((d0.memA .hd) 4 _ rfl) ?_
 have g0:=AT h0_4 d0
 have G0:a0.fNums.length <= 281474976710656:=Bh g0
 refine Ab (Bl (xs:=a0.fNums) underlying22 rfl g0)<|Ab (FV.eqlN (i:=a0.fNums.length) (j:=0) rfl rfl)<|Aa<|AW rfl h (fun k0 h=>?_) (fun k0 h=>?_)
 refine Ac<|Ag rfl<|Aa<|Ao rfl<|Bc hb0 func62 rfl rfl ?_
 cases h
 exact d0.gv
 refine Au<|Aj<|du 11 fun b0 c0=>Rv 0 b0 rfl c0 (fun _=>AP 4 rfl)<|Rx 1 1920 b0 rfl c0 (AQ rfl ((d0.memA .hd) 4 _ rfl))<|Rv 2 b0 rfl c0 (fun _=>Ak rfl)<|Rv 3 b0 rfl c0 (fun _=>AP 4 rfl)<|Rx 4 2016 b0 rfl c0 (AQ rfl ((d0.memA .hd) 4 _ rfl))<|Rx 5 1984 b0 rfl c0 (Bl (xs:=a0.fNums) underlying22 rfl g0)<|bk h fun B0 y0 h=>Rv 6 b0 rfl c0 (fun _=>FV.remc (i:=a1) (j:=((a0.fNums.length:Nat):Int)) rfl rfl y0)<|bk h fun j0 z0 h=>?_
 obtain ⟨t0,A0⟩:=aJ z0
 obtain ⟨C0,E0,q0,u0,p0,x0,v0⟩:=Br g0 A0
 have s0:p0 = [.int .u8 (j0.toNat:Int)]:=x0; subst s0
 refine Rv 7 b0 rfl c0 (fun _=>Bu 1 (B0.toNat) rfl q0 rfl t0 u0)<|Rx 8 1536 b0 rfl c0 (AQ rfl (v0 0 _ rfl)) ?_
 have H0:=j0.toNat_lt
 refine Rv 9 b0 rfl c0 (fun _=>FV.convN (i:=j0.toNat) underlying5 underlying3 rfl (by omega))<|Rv 10 b0 rfl c0 (fun _=>Ba rfl)<|AJ (dk b0)<|Ao rfl<|Bc hb0 func62 rfl rfl ?_
 cases h
 exact d0.gv
def ap_l1 (n:Nat) (a1:Int) (a2:Int) (a0:Th) (a3:Int) (d0:Int × (List Int) -> Option (List Int)):Int × (List Int) -> Option (List Int)
  | (b0,c0)=>(if b0 < a1 then (chk (a2 + b0)).bind fun j0=>(aD_p n a0 j0).bind fun p0=>(app c0 ([min p0 a3]:List Int)).bind fun k0=>(chk (b0 + 1)).bind fun g0=>d0 (g0,k0) else some c0)
def ap_p (n:Nat) (a0:Th) (a1:Int) (a2:Int) (a3:Int):Option (List Int):=
  Option.bind (ao (ap_l1 n a1 a2 a0 a3) n (0,([]:List Int))) (fun b0=>some b0)
theorem ap_c (n:Nat) {L w} (hL:hl L w) (a0:Th) {v0_4:Value} (h0_4:Rep.R w L [v0_4] a0.fNums) {a1:Int} {a2:Int} {a3:Int}  {r:List Int} (h:ap_p n a0 a1 a2 a3 = some r) :
 Cl 63 #[.agg #[.int .u8 (a0.fj.toNat:Int),.int .u8 (a0.fh.toNat:Int),.int .u8 (a0.fl.toNat:Int),.int .u8 (a0.fv.toNat:Int),v0_4],vI a1,vI a2,vI a3] w (aj w fun w' u=>∃ v0_0:Value,u = v0_0/\Rep.R w' L [v0_0] r):=by
 unfold ap_p at h
 refine AG func63 rfl rfl rfl fun _ cs0 hb0=>Ac<|RG.bx (AB w) rfl rfl fun p1 q0 u0 c1=>Ag rfl<|Aa<|Ac<|Ag rfl<|Aa<|Aj<|Ac<|Ag rfl<|Aa<|Ay ?_
 have v0:=u0.nilRow 3 (Rep.size Int)
 have g1:=St.nilRowT u0 3 (Rep.size Int)
 obtain ⟨j1,K0,J0⟩:=ax h
 refine MX.lf (α:=Int × (List Int) × Value × (List Value)) (fun ⟨g0,c0,b0,j0⟩=>[(1,vI a1),(2,vI a2),(3,vI a3),(4,vP q0),(9,b0),(10,vI g0)]) (fun ⟨g0,c0,b0,j0⟩=>[rr w 3 Int b0 c0.length j0,.cells q0 [.int .u8 (a0.fj.toNat:Int),.int .u8 (a0.fh.toNat:Int),.int .u8 (a0.fl.toNat:Int),.int .u8 (a0.fv.toNat:Int),v0_4] 27]) (fun ⟨g0,c0,b0,j0⟩ A0=>Cells A0 (bl [rr w 3 Int b0 c0.length j0,.cells q0 [.int .u8 (a0.fj.toNat:Int),.int .u8 (a0.fh.toNat:Int),.int .u8 (a0.fl.toNat:Int),.int .u8 (a0.fv.toNat:Int),v0_4] 27] ++ L) j0 c0) (fun ⟨g0,c0,b0,j0⟩=>(g0,c0)) (0,([]:List Int),vN,[]) K0 v0 (AH (cs:=[]) (xs:=([]:List Int)) v0 L (AR _ _)) ?_
 rintro Y0 ⟨g0,c0,b0,j0⟩ A0 D0 p0 G0 z0 h
 unfold ap_l1 at h
 try dsimp only at h
 refine Aj<|Ac<|Ae rfl<|Ae rfl<|Ab (FV.lss (i:=g0) (j:=a1) rfl rfl)<|Aa<|AW rfl h (fun B0 h=>?_) (fun B0 h=>?_)
 refine Au<|Aj<|Ay<|Am<|Ae rfl<|Ab (AC rfl (p0.memA .t1))<|Ae rfl<|Ae rfl<|bk h fun k1 Q0 h=>Ab (BH (i:=a2) (j:=g0) rfl rfl Q0)<|bk h fun d0 U0 h=>Bi (vI d0) (bd 62) rfl (e2 rfl rfl) (fun p q=>aD_c n (p0.hL0 hL q) a0 (p0.k0 h0_4 q) U0) rfl<|Ae rfl<|Ab (FV.min2 (i:=d0) (j:=a3) rfl rfl)<|Ai .plain rfl (jA (min d0 a3) (vI (min d0 a3)) p0 bp (e1 rfl)) fun q1 Z0 t0 y0=>bk h fun X0 R0 h=>RG.doesL .plain rfl (DoesL.app (α:=Int) (ys:=([min d0 a3]:List Int)) R0 t0 (fun _ _=>.t1) bp rfl rfl (AN z0 y0) (Src.row (α:=Int) t0 .hd (jC (min d0 a3) (vI (min d0 a3)) t0 L rfl))) fun W0 s1 ⟨C0,F0,H0,I0⟩=>Ag rfl<|Aa<|AE<|Am<|Ae rfl<|bk h fun V0 P0 h=>Ab (BH (i:=g0) (j:=1) rfl rfl P0)<|Ag rfl<|Aa ?_
 obtain ⟨E0,x0⟩:=AF F0 .d1
 exact D0 (V0,X0,W0,C0) E0 (Tt G0 (Tt y0 (Tt H0 x0))) (AN I0 x0) h
 refine Bf rfl ?_
 have h:=J0 _ h
 try dsimp only at h
 refine Ac<|Ae rfl<|Ag rfl<|Aa<|Ao rfl ?_
 have s0:=BI p0 .hd
 have b1:=BJ p0 .hd
 have M0:=BK (α:=Int) (v:=b0) (xs:=c0) s0 L (Bv (α:=Int) p0 .hd z0 hL)
 refine Bc hb0 func63 rfl rfl ?_
 cases h
 exact ⟨s0.ag,fun p q=>⟨b0,rfl,s0.kd M0 q⟩⟩
theorem el22:ElT Tryz.prog 22 5 (Rep.size UInt8) 1 (.int .u8 0) [.int .u8 0]:=⟨underlying22,by kernel_rfl,rfl,rfl,rfl,rfl⟩
def ac_l1 (n:Nat) (a0:Th) (t0:Int) (d0:Nat × (List Int) -> Option (List Int)):Nat × (List Int) -> Option (List Int)
  | (b0,c0)=>(if b0 < ((a0.fl % (3:UInt8)).toNat) then (chk (9 * t0)).bind fun g0=>(chk (g0 + 7)).bind fun j0=>(chk (j0 + ((b0:Nat):Int))).bind fun k0=>(aD_p n a0 k0).bind fun s0=>(dj s0 3).bind fun p0=>(app c0 ([p0]:List Int)).bind fun q0=>d0 (b0 + 1,q0) else some c0)
def ac_l2 (_n:Nat) (a0:Th) (d0:Nat × (List Tb) -> Option (List Tb)):Nat × (List Tb) -> Option (List Tb)
  | (b0,c0)=>(if b0 < ((a0.fv % (2:UInt8)).toNat) then (mk (((a0.fj % (3:UInt8)).toNat:Nat):Int) (0:Int)).bind fun g0=>(mk (((a0.fh % (4:UInt8)).toNat:Nat):Int) (0:Int)).bind fun j0=>(mk (((a0.fl % (3:UInt8)).toNat:Nat):Int) (0:Int)).bind fun k0=>(app c0 ([(⟨⟨#[115,101,97]⟩,(0:Int),g0,j0,k0,true⟩:Tb)]:List Tb)).bind fun p0=>d0 (b0 + 1,p0) else some c0)
def ac_l3 (n:Nat) (a1:Int) (a0:Th) (g0:Int × (List Tb) -> Option (List Tb)):Int × (List Tb) -> Option (List Tb)
  | (b0,c0)=>(if b0 < a1 then (dj b0 26).bind fun j0=>(chk (97 + j0)).bind fun k0=>(fY b0 26).bind fun p0=>(dj p0 26).bind fun q0=>(chk (97 + q0)).bind fun s0=>(chk (9 * b0)).bind fun t0=>(aD_p n a0 t0).bind fun d0=>(jI ⟨#[117]⟩ (bstr ([aE k0,aE s0]:List UInt8))).bind fun u0=>(chk (9 * b0)).bind fun v0=>(chk (v0 + 1)).bind fun x0=>(ap_p n a0 (((a0.fj % (3:UInt8)).toNat:Nat):Int) x0 d0).bind fun D0=>(chk (9 * b0)).bind fun y0=>(chk (y0 + 3)).bind fun z0=>(ap_p n a0 (((a0.fh % (4:UInt8)).toNat:Nat):Int) z0 (255:Int)).bind fun E0=>Option.bind (ao (ac_l1 n a0 b0) n (0,([]:List Int))) (fun B0=>(app c0 ([(⟨u0,d0,D0,E0,B0,false⟩:Tb)]:List Tb)).bind fun C0=>(chk (b0 + 1)).bind fun A0=>g0 (A0,C0)) else some c0)
def ac_p (n:Nat) (a0:Th) (a1:Int):Option Tf:=
  Option.bind (ao (ac_l3 n a1 a0) n (0,([]:List Tb))) (fun c0=>Option.bind (ao (ac_l2 n a0) n (0,c0)) (fun b0=>some (⟨(((a0.fj % (3:UInt8)).toNat:Nat):Int),(((a0.fh % (4:UInt8)).toNat:Nat):Int),(((a0.fl % (3:UInt8)).toNat:Nat):Int),b0⟩:Tf)))
theorem ac_c (n:Nat) {L w} (hL:hl L w) (a0:Th) {v0_4:Value} (h0_4:Rep.R w L [v0_4] a0.fNums) {a1:Int}  {r:Tf} (h:ac_p n a0 a1 = some r) :
 Cl 25 #[.agg #[.int .u8 (a0.fj.toNat:Int),.int .u8 (a0.fh.toNat:Int),.int .u8 (a0.fl.toNat:Int),.int .u8 (a0.fv.toNat:Int),v0_4],vI a1] w (aj w fun w' u=>∃ v0_3:Value,u = .agg #[vI r.fj,vI r.fh,vI r.fl,v0_3]/\Rep.R w' L [v0_3] r.fu):=by
 unfold ac_p at h
 refine AG func25 rfl rfl rfl fun _ cs0 hb0=>Ac<|RG.bx (AB w) rfl rfl fun q8 u0 H4 J7=>RG.nl [vI 0,vI 0,vI 0,vN] H4 fun y8 v0 X1 K7=>Aa<|Ac<|Bg 0 rfl<|AU rfl ((X1.memA .t1) 0 _ rfl)<|Ab (FV.rem8 (a:=a0.fj) (b:=(3:UInt8)) rfl rfl (by decide)) ?_
 have V7:=(a0.fj % (3:UInt8)).toNat_lt
 refine Ab (FV.convN (i:=(a0.fj % (3:UInt8)).toNat) underlying5 underlying3 rfl (by omega))<|Bg 1 rfl<|AU rfl ((X1.memA .t1) 1 _ rfl)<|Ab (FV.rem8 (a:=a0.fh) (b:=(4:UInt8)) rfl rfl (by decide)) ?_
 have W7:=(a0.fh % (4:UInt8)).toNat_lt
 refine Ab (FV.convN (i:=(a0.fh % (4:UInt8)).toNat) underlying5 underlying3 rfl (by omega))<|Bg 2 rfl<|AU rfl ((X1.memA .t1) 2 _ rfl)<|Ab (FV.rem8 (a:=a0.fl) (b:=(3:UInt8)) rfl rfl (by decide)) ?_
 have X7:=(a0.fl % (3:UInt8)).toNat_lt
 refine Ab (FV.convN (i:=(a0.fl % (3:UInt8)).toNat) underlying5 underlying3 rfl (by omega))<|Ab (AO (vs:=[vI (((a0.fj % (3:UInt8)).toNat:Nat):Int),vI (((a0.fh % (4:UInt8)).toNat:Nat):Int),vI (((a0.fl % (3:UInt8)).toNat:Nat):Int)]) (u:=.agg #[vI (((a0.fj % (3:UInt8)).toNat:Nat):Int),vI (((a0.fh % (4:UInt8)).toNat:Nat):Int),vI (((a0.fl % (3:UInt8)).toNat:Nat):Int),vN]) (e3 rfl rfl rfl) (fun p=>by kernel_rfl))<|RG.nl [vI 0,vI 0,vI 0,vN] X1 fun z8 x0 I4 M7=>AS [vI (((a0.fj % (3:UInt8)).toNat:Nat):Int),vI (((a0.fh % (4:UInt8)).toNat:Nat):Int),vI (((a0.fl % (3:UInt8)).toNat:Nat):Int),vN] I4 .hd (ah rfl) fun A8 g3 P7=>Aa<|Aj<|Ac<|Ag rfl<|Aa<|Ay ?_
 have A2:=g3.nilRow 59 (Rep.size Tb)
 have Q7:=St.nilRowT g3 59 (Rep.size Tb)
 have j3:=A2.nilRow 59 (Rep.size Tb)
 have R7:=AH (cs:=[]) (xs:=([]:List Tb)) j3 L (AR _ _)
 obtain ⟨Z7,M5,I5⟩:=ax h
 refine MX.lf (α:=Int × (List Tb) × Value × (List Value)) (fun ⟨z0,X0,y0,Z0⟩=>[(1,vI a1),(2,vP u0),(4,vP v0),(5,vP x0),(6,vI z0)]) (fun ⟨z0,X0,y0,Z0⟩=>[rr w 59 Tb vN (([]:List Tb).length) [],rr w 59 Tb y0 X0.length Z0,.cells x0 [vI (((a0.fj % (3:UInt8)).toNat:Nat):Int),vI (((a0.fh % (4:UInt8)).toNat:Nat):Int),vI (((a0.fl % (3:UInt8)).toNat:Nat):Int),y0] 35,.cells v0 [vI 0,vI 0,vI 0,vN] 35,.cells u0 [.int .u8 (a0.fj.toNat:Int),.int .u8 (a0.fh.toNat:Int),.int .u8 (a0.fl.toNat:Int),.int .u8 (a0.fv.toNat:Int),v0_4] 27]) (fun ⟨z0,X0,y0,Z0⟩ c4=>Cells c4 (bl [rr w 59 Tb vN (([]:List Tb).length) [],rr w 59 Tb y0 X0.length Z0,.cells x0 [vI (((a0.fj % (3:UInt8)).toNat:Nat):Int),vI (((a0.fh % (4:UInt8)).toNat:Nat):Int),vI (((a0.fl % (3:UInt8)).toNat:Nat):Int),y0] 35,.cells v0 [vI 0,vI 0,vI 0,vN] 35,.cells u0 [.int .u8 (a0.fj.toNat:Int),.int .u8 (a0.fh.toNat:Int),.int .u8 (a0.fl.toNat:Int),.int .u8 (a0.fv.toNat:Int),v0_4] 27] ++ L) Z0 X0) (fun ⟨z0,X0,y0,Z0⟩=>(z0,X0)) (0,([]:List Tb),vN,[]) M5 j3 (AN (AH (cs:=[]) (xs:=([]:List Tb)) A2 L (AR _ _)) (St.nilRowT A2 59 (Rep.size Tb))) ?_
 rintro t7 ⟨z0,X0,y0,Z0⟩ c4 y4 I1 c5 E3 h
 unfold ac_l3 at h
 try dsimp only at h
 refine Aj<|Ac<|Ae rfl<|Ae rfl<|Ab (FV.lss (i:=z0) (j:=a1) rfl rfl)<|Aa<|AW rfl h (fun p4 h=>?_) (fun p4 h=>?_)
 refine Au<|Aj<|Ay<|Aj<|du 18 fun c0 q0=>Rv 0 c0 rfl q0 (fun _=>Ak rfl)<|bk h fun H6 R5 h=>Rv 1 c0 rfl q0 (fun _=>FV.remc (i:=z0) (j:=26) rfl rfl R5)<|bk h fun D0 U5 h=>Rv 2 c0 rfl q0 (fun _=>BH (i:=97) (j:=H6) rfl rfl U5)<|Rv 3 c0 rfl q0 (fun _=>FV.convU8 (i:=D0) underlying3 underlying5 rfl)<|Rv 4 c0 rfl q0 (fun _=>Ak rfl)<|bk h fun I6 V5 h=>Rv 5 c0 rfl q0 (fun _=>FV.quoc (i:=z0) (j:=26) rfl rfl V5)<|bk h fun J6 W5 h=>Rv 6 c0 rfl q0 (fun _=>FV.remc (i:=I6) (j:=26) rfl rfl W5)<|bk h fun t0 X5 h=>Rv 7 c0 rfl q0 (fun _=>BH (i:=97) (j:=J6) rfl rfl X5)<|Rv 8 c0 rfl q0 (fun _=>FV.convU8 (i:=t0) underlying3 underlying5 rfl)<|Rx 12 360448 c0 rfl q0 (AC rfl (I1.memA .t4))<|Rv 13 c0 rfl q0 (fun _=>Ak rfl)<|bk h fun c8 Y5 h=>Rv 14 c0 rfl q0 (fun _=>FV.mulc (i:=9) (j:=z0) rfl rfl Y5)<|bk h fun g0 D6 h=>BD 15 61951 327680 (vI g0) c0 rfl q0 (bd 62) rfl (e2 rfl rfl) (fun p q=>aD_c n (I1.hL0 hL q) a0 (I1.k0 h0_4 q) D6) rfl<|bk h fun j0 Z3 h=>RD.mo (α:=Nat) (fun G1=>[(1,vI a1),(2,vP u0),(4,vP v0),(5,vP x0),(6,vI z0),(44,.agg #[.string j0,vI g0,vN,vN,vN,.bool false]),(7,vP G1)]) (fun G1=>[.cells G1 [.string ⟨#[]⟩,vI 0,vN,vN,vN,.bool false] 59,rr w 59 Tb vN (([]:List Tb).length) [],rr w 59 Tb y0 X0.length Z0,.cells x0 [vI (((a0.fj % (3:UInt8)).toNat:Nat):Int),vI (((a0.fh % (4:UInt8)).toNat:Nat):Int),vI (((a0.fl % (3:UInt8)).toNat:Nat):Int),y0] 35,.cells v0 [vI 0,vI 0,vI 0,vN] 35,.cells u0 [.int .u8 (a0.fj.toNat:Int),.int .u8 (a0.fh.toNat:Int),.int .u8 (a0.fl.toNat:Int),.int .u8 (a0.fv.toNat:Int),v0_4] 27]) I1 1 262143 ?_ ?_
 rintro G1 P8 J4 d5
 try dsimp only
 refine By 18 524287 c0 rfl rfl .plain (AA (news:=[.string j0,vI g0,vN,vN,vN,.bool false]) J4 .hd rfl rfl rfl rfl rfl rfl (ah rfl)) fun B8 Q1 g5=>AJ (dk c0)<|Ac<|Ab (AC rfl (Q1.memA .t5))<|Bg 0 rfl<|AU rfl ((Q1.memA .t3) 0 _ rfl)<|Ae rfl<|bk h fun K6 Z5 h=>Ab (FV.mulc (i:=9) (j:=z0) rfl rfl Z5)<|bk h fun d8 b6 h=>Ab (BH (i:=K6) (j:=1) rfl rfl b6)<|Bg 1 rfl<|AU rfl ((Q1.memA .hd) 1 _ rfl)<|bk h fun s2 E6 h=>jE (bd 63) rfl (e4 rfl rfl rfl rfl) (fun p q=>ap_c n (Q1.hL hL q) a0 (Q1.km h0_4 q) E6) rfl fun C8 W0 u5 ⟨k8,hu_,c2⟩=>?_
 subst hu_
 obtain ⟨K4,j5⟩:=Q1.agr u5
 refine Bg 2 rfl<|RG.now .plain (Bs (j:=2) (old:=[.string j0,vI g0,vN,vN,vN,.bool false]) (news:=[W0]) (new' :=[.string j0,vI g0,W0,vN,vN,.bool false]) K4 .hd rfl rfl rfl (Rep.c1 c2) rfl rfl (o1 (AZ c2)) rfl) fun D8 R1 v3=>Aa<|Ac<|Ab (AC rfl (R1.memA .t5))<|Bg 1 rfl<|AU rfl ((R1.memA .t3) 1 _ rfl)<|Ae rfl<|bk h fun M6 c6 h=>Ab (FV.mulc (i:=9) (j:=z0) rfl rfl c6)<|bk h fun g8 d6 h=>Ab (BH (i:=M6) (j:=3) rfl rfl d6)<|bk h fun u2 F6 h=>jE (bd 63) rfl (e4 rfl rfl rfl rfl) (fun p q=>ap_c n (R1.hL hL q) a0 (R1.km h0_4 q) F6) rfl fun E8 z1 v5 ⟨p8,hu_,g2⟩=>?_
 subst hu_
 obtain ⟨M4,x3⟩:=R1.agr v5
 refine Bg 3 rfl<|RG.now .plain (Bs (j:=3) (old:=[.string j0,vI g0,W0,vN,vN,.bool false]) (news:=[z1]) (new' :=[.string j0,vI g0,W0,z1,vN,.bool false]) M4 .hd rfl rfl rfl (Rep.c1 g2) rfl rfl (o1 (AZ g2)) rfl) fun F8 k3 V2=>Aa<|Aj<|Ac<|Ag rfl<|Aa<|Ay ?_
 have p3:=k3.nilRow 3 (Rep.size Int)
 have W2:=St.nilRowT k3 3 (Rep.size Int)
 obtain ⟨b8,P5,J5⟩:=ax h
 refine MX.lf (α:=Nat × (List Int) × Value × (List Value)) (fun ⟨x1,R0,K0,H1⟩=>[(1,vI a1),(2,vP u0),(4,vP v0),(5,vP x0),(6,vI z0),(7,vP G1),(8,vI ((x1:Nat):Int))]) (fun ⟨x1,R0,K0,H1⟩=>[rr w 3 Int K0 R0.length H1,.cells G1 [.string j0,vI g0,W0,z1,K0,.bool false] 59,rr w 59 Tb vN (([]:List Tb).length) [],rr w 59 Tb y0 X0.length Z0,.cells x0 [vI (((a0.fj % (3:UInt8)).toNat:Nat):Int),vI (((a0.fh % (4:UInt8)).toNat:Nat):Int),vI (((a0.fl % (3:UInt8)).toNat:Nat):Int),y0] 35,.cells v0 [vI 0,vI 0,vI 0,vN] 35,.cells u0 [.int .u8 (a0.fj.toNat:Int),.int .u8 (a0.fh.toNat:Int),.int .u8 (a0.fl.toNat:Int),.int .u8 (a0.fv.toNat:Int),v0_4] 27]) (fun ⟨x1,R0,K0,H1⟩ d4=>Cells d4 (bl [rr w 3 Int K0 R0.length H1,.cells G1 [.string j0,vI g0,W0,z1,K0,.bool false] 59,rr w 59 Tb vN (([]:List Tb).length) [],rr w 59 Tb y0 X0.length Z0,.cells x0 [vI (((a0.fj % (3:UInt8)).toNat:Nat):Int),vI (((a0.fh % (4:UInt8)).toNat:Nat):Int),vI (((a0.fl % (3:UInt8)).toNat:Nat):Int),y0] 35,.cells v0 [vI 0,vI 0,vI 0,vN] 35,.cells u0 [.int .u8 (a0.fj.toNat:Int),.int .u8 (a0.fh.toNat:Int),.int .u8 (a0.fl.toNat:Int),.int .u8 (a0.fv.toNat:Int),v0_4] 27] ++ L) H1 R0) (fun ⟨x1,R0,K0,H1⟩=>(x1,R0)) (0,([]:List Int),vN,[]) P5 p3 (AH (cs:=[]) (xs:=([]:List Int)) p3 L (AR _ _)) ?_
 rintro u7 ⟨x1,R0,K0,H1⟩ d4 z4 b1 Z1 F3 h
 unfold ac_l1 at h
 try dsimp only at h
 refine Aj<|Ac<|Ae rfl<|Bg 2 rfl<|AU rfl ((b1.memA .t4) 2 _ rfl)<|Ab (Bn (i:=x1) (j:=(a0.fl % (3:UInt8)).toNat) rfl rfl)<|Aa<|AW rfl h (fun q4 h=>?_) (fun q4 h=>?_)
 refine Au<|Aj<|Ay<|du 11 fun s0 y1=>Rv 0 s0 rfl y1 (fun _=>AP 4 rfl)<|Rx 1 14336 s0 rfl y1 (AQ rfl ((b1.memA .t1) 4 _ rfl))<|Rx 2 16128 s0 rfl y1 (AC rfl (b1.memA .t6))<|Rv 3 s0 rfl y1 (fun _=>Ak rfl)<|bk h fun P6 g6 h=>Rv 4 s0 rfl y1 (fun _=>FV.mulc (i:=9) (j:=z0) rfl rfl g6)<|bk h fun Q6 j6 h=>Rv 5 s0 rfl y1 (fun _=>BH (i:=P6) (j:=7) rfl rfl j6)<|Rv 6 s0 rfl y1 (fun _=>Ak rfl)<|bk h fun j8 k6 h=>Rv 7 s0 rfl y1 (fun _=>BH (i:=Q6) (j:=((x1:Nat):Int)) rfl rfl k6)<|bk h fun g4 G6 h=>BD 8 511 15872 (vI g4) s0 rfl y1 (bd 62) rfl (e2 rfl rfl) (fun p q=>aD_c n (b1.hL0 hL q) a0 (b1.k0 h0_4 q) G6) rfl<|bk h fun K1 p6 h=>Rv 9 s0 rfl y1 (fun _=>FV.remc (i:=g4) (j:=3) rfl rfl p6)<|RD.nu 10 2047 s0 rfl .plain rfl (jA K1 (vI K1) b1 bp (e1 rfl)) fun G8 x7 C2 y3=>bk h fun X6 B6 h=>AM (i:=11) (rk s0) (RO.doesL (m' :=4095) (sk s0) rfl rfl .plain rfl (DoesL.app (α:=Int) (ys:=([K1]:List Int)) B6 C2 (fun _ _=>.t1) bp rfl rfl (AN F3 y3) (Src.row (α:=Int) C2 .hd (jC K1 (vI K1) C2 L rfl))) (fun Z2 H8 ⟨u4,D2,k5,C5⟩=>?_))
 refine AM (i:=12) (rk s0) (Bd (m' :=8191) (sk s0) rfl .plain rfl (AP 4 rfl) ?_)
 refine By 13 16383 s0 rfl rfl .plain (Bs (j:=4) (old:=[.string j0,vI g0,W0,z1,K0,.bool false]) (news:=[Z2]) (new' :=[.string j0,vI g0,W0,z1,Z2,.bool false]) D2 .t2 rfl rfl rfl (St.c1 (α:=Int) D2 .t1) rfl rfl (o1 (St.o1 (α:=Int) D2 .t1)) rfl) fun I8 P4 z3=>AJ (dk s0)<|AE<|Am<|Ae rfl<|Ab (Bp (i:=x1) (j:=1) rfl rfl (by omega))<|Ag rfl<|Aa ?_
 obtain ⟨Q4,A3⟩:=AF P4 .d1
 exact z4 (x1 + 1,X6,Z2,u4) Q4 (Tt Z1 (Tt y3 (Tt k5 (Tt z3 A3)))) (AN C5 (Tt z3 A3)) h
 refine Bf rfl ?_
 have h:=J5 _ h
 try dsimp only at h
 refine Am<|Bg 3 rfl<|AU rfl ((b1.memA .t4) 3 _ rfl)<|Ab (AC rfl (b1.memA .t1)) ?_
 have q3:=BI b1 .hd
 have X2:=BJ b1 .hd
 have Y3:=BK (α:=Int) (v:=K0) (xs:=R0) q3 L (Bv (α:=Int) b1 .hd F3 hL)
 have Q3:=Tt v3 (Tt x3 (Tt V2 (Tt W2 (Tt Z1 X2))))
 have R3:=Tt V2 (Tt W2 (Tt Z1 X2))
 obtain ⟨k7,F7,x6,_⟩:=Rep.sl (Az c2 Q3)
 obtain ⟨p7,G7,y6,_⟩:=Rep.sl (Az g2 R3)
 obtain ⟨q7,H7,z6,_⟩:=Rep.sl Y3
 refine Ai .plain rfl (Bb (α:=Tb) (xs:=([(⟨j0,g0,s2,u2,R0,false⟩:Tb)]:List Tb)) (vs:=[.agg #[.string j0,vI g0,W0,z1,K0,.bool false]]) (ds' :=[.string j0,vI g0,W0,z1,K0,.bool false]) rfl q3 gq rfl (e1 rfl) (by rw [x6,y6,z6]; try kernel_rfl) rfl) fun J8 y7 E2 b2=>bk h fun Y6 C6 h=>?_
 have U3:=Tt d5 (Tt g5 (Tt j5 (Tt v3 (Tt x3 (Tt V2 (Tt W2 (Tt Z1 (Tt X2 b2))))))))
 refine RG.doesL .plain rfl (DoesL.app (α:=Tb) (ys:=([(⟨j0,g0,s2,u2,R0,false⟩:Tb)]:List Tb)) C6 E2 (fun _ _=>.t3) gq rfl rfl (AN E3 U3) (Src.row (α:=Tb) E2 .hd (AH (cs:=[.string j0,vI g0,W0,z1,K0,.bool false]) (xs:=(([(⟨j0,g0,s2,u2,R0,false⟩:Tb)]:List Tb):List Tb)) E2 L (Ar (cs:=[.string j0,vI g0,W0,z1,K0,.bool false]) (ds:=[]) (gr j0 g0 s2 (Az c2 (Tt Q3 b2)) u2 (Az g2 (Tt R3 b2)) R0 (Az Y3 b2) false) (AR _ _))))) fun b3 K8 ⟨v4,F2,p5,D5⟩=>Bg 3 rfl<|RG.now .plain (Bs (j:=3) (old:=[vI (((a0.fj % (3:UInt8)).toNat:Nat):Int),vI (((a0.fh % (4:UInt8)).toNat:Nat):Int),vI (((a0.fl % (3:UInt8)).toNat:Nat):Int),y0]) (news:=[b3]) (new' :=[vI (((a0.fj % (3:UInt8)).toNat:Nat):Int),vI (((a0.fh % (4:UInt8)).toNat:Nat):Int),vI (((a0.fl % (3:UInt8)).toNat:Nat):Int),b3]) F2 .t4 rfl rfl rfl (St.c1 (α:=Tb) F2 .t3) rfl rfl (o1 (St.o1 (α:=Tb) F2 .t3)) rfl) fun M8 R4 B3=>Aa<|AE<|Am<|Ae rfl<|bk h fun R6 q6 h=>Ab (BH (i:=z0) (j:=1) rfl rfl q6)<|Ag rfl<|Aa ?_
 obtain ⟨U4,C3⟩:=AF R4 .d2
 exact y4 (R6,Y6,b3,v4) U4 (Tt c5 (Tt U3 (Tt p5 (Tt B3 C3)))) (AN D5 (Tt B3 C3)) h
 intro c3
 refine BB [9,17] (rk c0) ⟨?_,?_,trivial⟩
 refine RO.new (m' :=62463) (sk c0) rfl .plain rfl (Bb (α:=UInt8) (xs:=([aE D0,aE t0]:List UInt8)) (vs:=[.int .u8 ((aE D0).toNat:Int),.int .u8 ((aE t0).toNat:Int)]) (ds' :=[.int .u8 ((aE D0).toNat:Int),.int .u8 ((aE t0).toNat:Int)]) rfl I1 el22 rfl (e2 rfl rfl) (by kernel_rfl) rfl) fun U6 j4 J1 R2=>?_
 have B5:=AH (cs:=[.int .u8 ((aE D0).toNat:Int),.int .u8 ((aE t0).toNat:Int)]) (xs:=(([aE D0,aE t0]:List UInt8):List UInt8)) J1 L (Ar (cs:=[.int .u8 ((aE D0).toNat:Int)]) (ds:=[.int .u8 ((aE t0).toNat:Int)]) rfl (Ar (cs:=[.int .u8 ((aE t0).toNat:Int)]) (ds:=[]) rfl (AR _ _)))
 refine Rx 10 329728 c0 rfl q0 (FV.bytesS (xs:=([aE D0,aE t0]:List UInt8)) underlying22 underlying9 underlying5 rfl (Src.row (α:=UInt8) J1 .hd B5))<|Rv 11 c0 rfl q0 (fun _=>FV.addS Z3 rfl rfl)<|Rv 16 c0 rfl q0 (fun _=>AO (vs:=[.string j0,vI g0]) (u:=.agg #[.string j0,vI g0,vN,vN,vN,.bool false]) (e2 rfl rfl) (fun p=>by kernel_rfl))<|RD.nu 17 262143 c0 rfl .plain rfl (Aw [.string ⟨#[]⟩,vI 0,vN,vN,vN,.bool false] J1) fun V6 v2 B2 U2=>?_
 obtain ⟨V4,q5⟩:=AF B2 (.a0 .d1)
 exact c3 v2 V4 (Tt R2 (Tt U2 q5))
 refine RO.new (m' :=193023) (sk c0) rfl .plain rfl (Aw [.string ⟨#[]⟩,vI 0,vN,vN,vN,.bool false] I1) fun V6 v2 B2 U2=>RD.nu 9 193535 c0 rfl .plain rfl (Bb (α:=UInt8) (xs:=([aE D0,aE t0]:List UInt8)) (vs:=[.int .u8 ((aE D0).toNat:Int),.int .u8 ((aE t0).toNat:Int)]) (ds' :=[.int .u8 ((aE D0).toNat:Int),.int .u8 ((aE t0).toNat:Int)]) rfl B2 el22 rfl (e2 rfl rfl) (by kernel_rfl) rfl) fun U6 j4 J1 R2=>Rx 10 329728 c0 rfl q0 (FV.bytesS (xs:=([aE D0,aE t0]:List UInt8)) underlying22 underlying9 underlying5 rfl (Src.row (α:=UInt8) J1 .hd (AH (cs:=[.int .u8 ((aE D0).toNat:Int),.int .u8 ((aE t0).toNat:Int)]) (xs:=(([aE D0,aE t0]:List UInt8):List UInt8)) J1 L (Ar (cs:=[.int .u8 ((aE D0).toNat:Int)]) (ds:=[.int .u8 ((aE t0).toNat:Int)]) rfl (Ar (cs:=[.int .u8 ((aE t0).toNat:Int)]) (ds:=[]) rfl (AR _ _))))))<|Rv 11 c0 rfl q0 (fun _=>FV.addS Z3 rfl rfl)<|Rv 16 c0 rfl q0 (fun _=>AO (vs:=[.string j0,vI g0]) (u:=.agg #[.string j0,vI g0,vN,vN,vN,.bool false]) (e2 rfl rfl) (fun p=>by kernel_rfl)) ?_
 obtain ⟨W4,s5⟩:=AF J1 .d1
 exact c3 v2 W4 (Tt U2 (Tt R2 s5))
 refine Bf rfl ?_
 have h:=I5 _ h
 try dsimp only at h
 refine Aj<|Ac<|Ag rfl<|Aa<|Ay ?_
 obtain ⟨Y7,K5,H5⟩:=ax h
 refine MX.lf (α:=Nat × (List Tb) × Value × (List Value)) (fun ⟨v1,Q0,p0,Y0⟩=>[(2,vP u0),(4,vP v0),(5,vP x0),(9,vI ((v1:Nat):Int))]) (fun ⟨v1,Q0,p0,Y0⟩=>[rr w 59 Tb vN (([]:List Tb).length) [],rr w 59 Tb p0 Q0.length Y0,.cells x0 [vI (((a0.fj % (3:UInt8)).toNat:Nat):Int),vI (((a0.fh % (4:UInt8)).toNat:Nat):Int),vI (((a0.fl % (3:UInt8)).toNat:Nat):Int),p0] 35,.cells v0 [vI 0,vI 0,vI 0,vN] 35,.cells u0 [.int .u8 (a0.fj.toNat:Int),.int .u8 (a0.fh.toNat:Int),.int .u8 (a0.fl.toNat:Int),.int .u8 (a0.fv.toNat:Int),v0_4] 27]) (fun ⟨v1,Q0,p0,Y0⟩ b4=>Cells b4 (bl [rr w 59 Tb vN (([]:List Tb).length) [],rr w 59 Tb p0 Q0.length Y0,.cells x0 [vI (((a0.fj % (3:UInt8)).toNat:Nat):Int),vI (((a0.fh % (4:UInt8)).toNat:Nat):Int),vI (((a0.fl % (3:UInt8)).toNat:Nat):Int),p0] 35,.cells v0 [vI 0,vI 0,vI 0,vN] 35,.cells u0 [.int .u8 (a0.fj.toNat:Int),.int .u8 (a0.fh.toNat:Int),.int .u8 (a0.fl.toNat:Int),.int .u8 (a0.fv.toNat:Int),v0_4] 27] ++ L) Y0 Q0) (fun ⟨v1,Q0,p0,Y0⟩=>(v1,Q0)) (0,X0,y0,Z0) K5 I1 E3 ?_
 rintro s7 ⟨v1,Q0,p0,Y0⟩ b4 x4 U0 X4 D3 h
 unfold ac_l2 at h
 try dsimp only at h
 refine Aj<|Ac<|Ae rfl<|Bg 3 rfl<|AU rfl ((U0.memA .t4) 3 _ rfl)<|Ab (FV.rem8 (a:=a0.fv) (b:=(2:UInt8)) rfl rfl (by decide)) ?_
 have U7:=(a0.fv % (2:UInt8)).toNat_lt
 refine Ab (FV.convN (i:=(a0.fv % (2:UInt8)).toNat) underlying5 underlying3 rfl (by omega))<|Ab (Bn (i:=v1) (j:=(a0.fv % (2:UInt8)).toNat) rfl rfl)<|Aa<|AW rfl h (fun k4 h=>?_) (fun k4 h=>?_)
 refine Au<|Aj<|Ay<|du 13 fun b0 A1=>Rv 0 b0 rfl A1 (fun _=>AP 3 rfl)<|Rx 1 57344 b0 rfl A1 (AQ rfl ((U0.memA .t2) 3 _ rfl))<|Rv 2 b0 rfl A1 (fun _=>AP 0 rfl)<|Rx 3 63504 b0 rfl A1 (AQ rfl ((U0.memA .t2) 0 _ rfl))<|Rv 5 b0 rfl A1 (fun _=>AP 1 rfl)<|Rx 6 63616 b0 rfl A1 (AQ rfl ((U0.memA .t2) 1 _ rfl))<|Rv 8 b0 rfl A1 (fun _=>AP 2 rfl)<|Rx 9 64512 b0 rfl A1 (AQ rfl ((U0.memA .t2) 2 _ rfl))<|bk h fun H0 q1 h=>bk h fun I0 s1 h=>bk h fun J0 u1 h=>RD.mf (α:=Value × (List Value) × Value × (List Value) × Value × (List Value)) (fun ⟨E0,B1,F0,C1,G0,D1⟩=>[(2,vP u0),(4,vP v0),(5,vP x0),(9,vI ((v1:Nat):Int)),(97,p0),(100,G0),(103,F0),(106,E0)]) (fun ⟨E0,B1,F0,C1,G0,D1⟩=>[rr w 3 Int E0 J0.length B1,rr w 3 Int F0 I0.length C1,rr w 3 Int G0 H0.length D1,rr w 59 Tb vN (([]:List Tb).length) [],rr w 59 Tb p0 Q0.length Y0,.cells x0 [vI (((a0.fj % (3:UInt8)).toNat:Nat):Int),vI (((a0.fh % (4:UInt8)).toNat:Nat):Int),vI (((a0.fl % (3:UInt8)).toNat:Nat):Int),p0] 35,.cells v0 [vI 0,vI 0,vI 0,vN] 35,.cells u0 [.int .u8 (a0.fj.toNat:Int),.int .u8 (a0.fh.toNat:Int),.int .u8 (a0.fl.toNat:Int),.int .u8 (a0.fv.toNat:Int),v0_4] 27]) (fun ⟨E0,B1,F0,C1,G0,D1⟩ q2=>Cells q2 (bl [rr w 3 Int E0 J0.length B1,rr w 3 Int F0 I0.length C1,rr w 3 Int G0 H0.length D1,rr w 59 Tb vN (([]:List Tb).length) [],rr w 59 Tb p0 Q0.length Y0,.cells x0 [vI (((a0.fj % (3:UInt8)).toNat:Nat):Int),vI (((a0.fh % (4:UInt8)).toNat:Nat):Int),vI (((a0.fl % (3:UInt8)).toNat:Nat):Int),p0] 35,.cells v0 [vI 0,vI 0,vI 0,vN] 35,.cells u0 [.int .u8 (a0.fj.toNat:Int),.int .u8 (a0.fh.toNat:Int),.int .u8 (a0.fl.toNat:Int),.int .u8 (a0.fv.toNat:Int),v0_4] 27] ++ L) B1 (J0:List Int)/\Cells q2 (bl [rr w 3 Int E0 J0.length B1,rr w 3 Int F0 I0.length C1,rr w 3 Int G0 H0.length D1,rr w 59 Tb vN (([]:List Tb).length) [],rr w 59 Tb p0 Q0.length Y0,.cells x0 [vI (((a0.fj % (3:UInt8)).toNat:Nat):Int),vI (((a0.fh % (4:UInt8)).toNat:Nat):Int),vI (((a0.fl % (3:UInt8)).toNat:Nat):Int),p0] 35,.cells v0 [vI 0,vI 0,vI 0,vN] 35,.cells u0 [.int .u8 (a0.fj.toNat:Int),.int .u8 (a0.fh.toNat:Int),.int .u8 (a0.fl.toNat:Int),.int .u8 (a0.fv.toNat:Int),v0_4] 27] ++ L) C1 (I0:List Int)/\Cells q2 (bl [rr w 3 Int E0 J0.length B1,rr w 3 Int F0 I0.length C1,rr w 3 Int G0 H0.length D1,rr w 59 Tb vN (([]:List Tb).length) [],rr w 59 Tb p0 Q0.length Y0,.cells x0 [vI (((a0.fj % (3:UInt8)).toNat:Nat):Int),vI (((a0.fh % (4:UInt8)).toNat:Nat):Int),vI (((a0.fl % (3:UInt8)).toNat:Nat):Int),p0] 35,.cells v0 [vI 0,vI 0,vI 0,vN] 35,.cells u0 [.int .u8 (a0.fj.toNat:Int),.int .u8 (a0.fh.toNat:Int),.int .u8 (a0.fl.toNat:Int),.int .u8 (a0.fv.toNat:Int),v0_4] 27] ++ L) D1 (H0:List Int)) U0 5 2047 ?_ ?_
 rintro ⟨E0,B1,F0,C1,G0,D1⟩ q2 P1 Y4 ⟨x5,y5,z5⟩
 try dsimp only
 obtain ⟨Z6,z7,E5⟩:=St.rowV (α:=Int) P1 .t2
 obtain ⟨b7,A7,F5⟩:=St.rowV (α:=Int) P1 .t1
 obtain ⟨c7,B7,G5⟩:=St.rowV (α:=Int) P1 .hd
 refine Rv 11 b0 rfl A1 (fun _=>AO (vs:=[.string ⟨#[115,101,97]⟩,.bool true,G0,F0,E0]) (u:=.agg #[.string ⟨#[115,101,97]⟩,vI 0,G0,F0,E0,.bool true]) (e5 rfl rfl rfl rfl rfl) (fun p=>by rw [E5,F5,G5]; try kernel_rfl)) ?_
 have U1:=BI P1 .t2
 have G2:=BJ P1 .t2
 have V3:=BK (α:=Int) (v:=G0) (xs:=H0) U1 L (Bv (α:=Int) P1 .t2 z5 hL)
 have V1:=BI U1 .t1
 have H2:=BJ U1 .t1
 have W3:=BK (α:=Int) (v:=F0) (xs:=I0) V1 L (Bv (α:=Int) U1 .t1 (AN y5 G2) hL)
 have d3:=BI V1 .hd
 have Y1:=BJ V1 .hd
 have X3:=BK (α:=Int) (v:=E0) (xs:=J0) d3 L (Bv (α:=Int) V1 .hd (AN x5 (Tt G2 H2)) hL)
 obtain ⟨d7,C7,s6,_⟩:=Rep.sl (Az V3 (Tt H2 Y1))
 obtain ⟨g7,D7,u6,_⟩:=Rep.sl (Az W3 Y1)
 obtain ⟨j7,E7,v6,_⟩:=Rep.sl X3
 refine RD.nu 12 8191 b0 rfl .plain rfl (Bb (α:=Tb) (xs:=([(⟨⟨#[115,101,97]⟩,(0:Int),H0,I0,J0,true⟩:Tb)]:List Tb)) (vs:=[.agg #[.string ⟨#[115,101,97]⟩,vI 0,G0,F0,E0,.bool true]]) (ds' :=[.string ⟨#[115,101,97]⟩,vI 0,G0,F0,E0,.bool true]) rfl d3 gq rfl (e1 rfl) (by rw [s6,u6,v6]; try kernel_rfl) rfl) fun s8 v7 x2 I2=>?_
 have G3:=Tt H2 (Tt Y1 I2)
 refine bk h fun W6 A6 h=>?_
 have H3:=Tt Y4 (Tt G2 G3)
 refine AM (i:=13) (rk b0) (RO.doesL (m' :=16383) (sk b0) rfl rfl .plain rfl (DoesL.app (α:=Tb) (ys:=([(⟨⟨#[115,101,97]⟩,(0:Int),H0,I0,J0,true⟩:Tb)]:List Tb)) A6 x2 (fun _ _=>.t2) gq rfl rfl (AN D3 H3) (Src.row (α:=Tb) x2 .hd (AH (cs:=[.string ⟨#[115,101,97]⟩,vI 0,G0,F0,E0,.bool true]) (xs:=(([(⟨⟨#[115,101,97]⟩,(0:Int),H0,I0,J0,true⟩:Tb)]:List Tb):List Tb)) x2 L (Ar (cs:=[.string ⟨#[115,101,97]⟩,vI 0,G0,F0,E0,.bool true]) (ds:=[]) (gr ⟨#[115,101,97]⟩ (0:Int) H0 (Az V3 G3) I0 (Az W3 (Tt Y1 I2)) J0 (Az X3 I2) true) (AR _ _))))) (fun Y2 t8 ⟨s4,y2,Z4,A5⟩=>?_))
 refine AM (i:=14) (rk b0) (Bd (m' :=32767) (sk b0) rfl .plain rfl (AP 3 rfl) ?_)
 refine By 15 65535 b0 rfl rfl .plain (Bs (j:=3) (old:=[vI (((a0.fj % (3:UInt8)).toNat:Nat):Int),vI (((a0.fh % (4:UInt8)).toNat:Nat):Int),vI (((a0.fl % (3:UInt8)).toNat:Nat):Int),p0]) (news:=[Y2]) (new' :=[vI (((a0.fj % (3:UInt8)).toNat:Nat):Int),vI (((a0.fh % (4:UInt8)).toNat:Nat):Int),vI (((a0.fl % (3:UInt8)).toNat:Nat):Int),Y2]) y2 .t3 rfl rfl rfl (St.c1 (α:=Tb) y2 .t2) rfl rfl (o1 (St.o1 (α:=Tb) y2 .t2)) rfl) fun v8 A4 s3=>AJ (dk b0)<|AE<|Am<|Ae rfl<|Ab (Bp (i:=v1) (j:=1) rfl rfl (by omega))<|Ag rfl<|Aa ?_
 obtain ⟨B4,u3⟩:=AF A4 .d1
 exact x4 (v1 + 1,W6,Y2,s4) B4 (Tt X4 (Tt H3 (Tt Z4 (Tt s3 u3)))) (AN A5 (Tt s3 u3)) h
 intro M1
 refine BB [4,7,10] (rk b0) ⟨?_,?_,?_,trivial⟩
 refine RO.new (m' :=895) (sk b0) rfl .plain rfl (Does.mk (α:=Int) q1 U0 bp rfl) fun j2 g1 A0 V0=>?_
 have E1:=AH (cs:=(List.replicate (((a0.fj % (3:UInt8)).toNat:Nat):Int).toNat [vI 0]).flatten) (xs:=H0) A0 L (Cells.mk q1 rfl)
 refine BB [7,10] (rk b0) ⟨?_,?_,trivial⟩
 refine RO.new (m' :=1023) (sk b0) rfl .plain rfl (Does.mk (α:=Int) s1 A0 bp rfl) fun k2 j1 B0 M0=>?_
 have F1:=AH (cs:=(List.replicate (((a0.fh % (4:UInt8)).toNat:Nat):Int).toNat [vI 0]).flatten) (xs:=I0) B0 L (Cells.mk s1 rfl)
 refine RD.nu 10 2047 b0 rfl .plain rfl (Does.mk (α:=Int) u1 B0 bp rfl) fun p2 k1 C0 P0=>?_
 have p1:=AH (cs:=(List.replicate (((a0.fl % (3:UInt8)).toNat:Nat):Int).toNat [vI 0]).flatten) (xs:=J0) C0 L (Cells.mk u1 rfl)
 exact M1 ((.slice (some ⟨k1,0,none⟩) (((a0.fl % (3:UInt8)).toNat:Nat):Int).toNat (((a0.fl % (3:UInt8)).toNat:Nat):Int).toNat),(List.replicate (((a0.fl % (3:UInt8)).toNat:Nat):Int).toNat [vI 0]).flatten,(.slice (some ⟨j1,0,none⟩) (((a0.fh % (4:UInt8)).toNat:Nat):Int).toNat (((a0.fh % (4:UInt8)).toNat:Nat):Int).toNat),(List.replicate (((a0.fh % (4:UInt8)).toNat:Nat):Int).toNat [vI 0]).flatten,(.slice (some ⟨g1,0,none⟩) (((a0.fj % (3:UInt8)).toNat:Nat):Int).toNat (((a0.fj % (3:UInt8)).toNat:Nat):Int).toNat),(List.replicate (((a0.fj % (3:UInt8)).toNat:Nat):Int).toNat [vI 0]).flatten) C0 (Tt V0 (Tt M0 P0)) ⟨p1,(AN F1 P0),(AN E1 (Tt M0 P0))⟩
 refine RO.new (m' :=1919) (sk b0) rfl .plain rfl (Does.mk (α:=Int) u1 A0 bp rfl) fun p2 k1 C0 P0=>?_
 have p1:=AH (cs:=(List.replicate (((a0.fl % (3:UInt8)).toNat:Nat):Int).toNat [vI 0]).flatten) (xs:=J0) C0 L (Cells.mk u1 rfl)
 refine RD.nu 7 2047 b0 rfl .plain rfl (Does.mk (α:=Int) s1 C0 bp rfl) fun k2 j1 B0 M0=>?_
 have F1:=AH (cs:=(List.replicate (((a0.fh % (4:UInt8)).toNat:Nat):Int).toNat [vI 0]).flatten) (xs:=I0) B0 L (Cells.mk s1 rfl)
 obtain ⟨C4,J2⟩:=AF B0 (.a1 .d0)
 have I3:=Tt P0 (Tt M0 J2)
 exact M1 ((.slice (some ⟨k1,0,none⟩) (((a0.fl % (3:UInt8)).toNat:Nat):Int).toNat (((a0.fl % (3:UInt8)).toNat:Nat):Int).toNat),(List.replicate (((a0.fl % (3:UInt8)).toNat:Nat):Int).toNat [vI 0]).flatten,(.slice (some ⟨j1,0,none⟩) (((a0.fh % (4:UInt8)).toNat:Nat):Int).toNat (((a0.fh % (4:UInt8)).toNat:Nat):Int).toNat),(List.replicate (((a0.fh % (4:UInt8)).toNat:Nat):Int).toNat [vI 0]).flatten,(.slice (some ⟨g1,0,none⟩) (((a0.fj % (3:UInt8)).toNat:Nat):Int).toNat (((a0.fj % (3:UInt8)).toNat:Nat):Int).toNat),(List.replicate (((a0.fj % (3:UInt8)).toNat:Nat):Int).toNat [vI 0]).flatten) C4 (Tt V0 I3) ⟨(AN p1 (Tt M0 J2)),(AN F1 J2),(AN E1 I3)⟩
 refine RO.new (m' :=1007) (sk b0) rfl .plain rfl (Does.mk (α:=Int) s1 U0 bp rfl) fun k2 j1 B0 M0=>?_
 have F1:=AH (cs:=(List.replicate (((a0.fh % (4:UInt8)).toNat:Nat):Int).toNat [vI 0]).flatten) (xs:=I0) B0 L (Cells.mk s1 rfl)
 refine BB [4,10] (rk b0) ⟨?_,?_,trivial⟩
 refine RO.new (m' :=1023) (sk b0) rfl .plain rfl (Does.mk (α:=Int) q1 B0 bp rfl) fun j2 g1 A0 V0=>?_
 have E1:=AH (cs:=(List.replicate (((a0.fj % (3:UInt8)).toNat:Nat):Int).toNat [vI 0]).flatten) (xs:=H0) A0 L (Cells.mk q1 rfl)
 refine RD.nu 10 2047 b0 rfl .plain rfl (Does.mk (α:=Int) u1 A0 bp rfl) fun p2 k1 C0 P0=>?_
 have p1:=AH (cs:=(List.replicate (((a0.fl % (3:UInt8)).toNat:Nat):Int).toNat [vI 0]).flatten) (xs:=J0) C0 L (Cells.mk u1 rfl)
 obtain ⟨D4,K2⟩:=AF C0 (.a0 (.a1 .d0))
 have J3:=Tt V0 (Tt P0 K2)
 exact M1 ((.slice (some ⟨k1,0,none⟩) (((a0.fl % (3:UInt8)).toNat:Nat):Int).toNat (((a0.fl % (3:UInt8)).toNat:Nat):Int).toNat),(List.replicate (((a0.fl % (3:UInt8)).toNat:Nat):Int).toNat [vI 0]).flatten,(.slice (some ⟨j1,0,none⟩) (((a0.fh % (4:UInt8)).toNat:Nat):Int).toNat (((a0.fh % (4:UInt8)).toNat:Nat):Int).toNat),(List.replicate (((a0.fh % (4:UInt8)).toNat:Nat):Int).toNat [vI 0]).flatten,(.slice (some ⟨g1,0,none⟩) (((a0.fj % (3:UInt8)).toNat:Nat):Int).toNat (((a0.fj % (3:UInt8)).toNat:Nat):Int).toNat),(List.replicate (((a0.fj % (3:UInt8)).toNat:Nat):Int).toNat [vI 0]).flatten) D4 (Tt M0 J3) ⟨(AN p1 K2),(AN F1 J3),(AN E1 (Tt P0 K2))⟩
 refine RO.new (m' :=2031) (sk b0) rfl .plain rfl (Does.mk (α:=Int) u1 B0 bp rfl) fun p2 k1 C0 P0=>?_
 have p1:=AH (cs:=(List.replicate (((a0.fl % (3:UInt8)).toNat:Nat):Int).toNat [vI 0]).flatten) (xs:=J0) C0 L (Cells.mk u1 rfl)
 refine RD.nu 4 2047 b0 rfl .plain rfl (Does.mk (α:=Int) q1 C0 bp rfl) fun j2 g1 A0 V0=>?_
 have E1:=AH (cs:=(List.replicate (((a0.fj % (3:UInt8)).toNat:Nat):Int).toNat [vI 0]).flatten) (xs:=H0) A0 L (Cells.mk q1 rfl)
 obtain ⟨E4,M2⟩:=AF A0 (.a1 (.a1 .d0))
 have K3:=Tt P0 (Tt V0 M2)
 exact M1 ((.slice (some ⟨k1,0,none⟩) (((a0.fl % (3:UInt8)).toNat:Nat):Int).toNat (((a0.fl % (3:UInt8)).toNat:Nat):Int).toNat),(List.replicate (((a0.fl % (3:UInt8)).toNat:Nat):Int).toNat [vI 0]).flatten,(.slice (some ⟨j1,0,none⟩) (((a0.fh % (4:UInt8)).toNat:Nat):Int).toNat (((a0.fh % (4:UInt8)).toNat:Nat):Int).toNat),(List.replicate (((a0.fh % (4:UInt8)).toNat:Nat):Int).toNat [vI 0]).flatten,(.slice (some ⟨g1,0,none⟩) (((a0.fj % (3:UInt8)).toNat:Nat):Int).toNat (((a0.fj % (3:UInt8)).toNat:Nat):Int).toNat),(List.replicate (((a0.fj % (3:UInt8)).toNat:Nat):Int).toNat [vI 0]).flatten) E4 (Tt M0 K3) ⟨(AN p1 (Tt V0 M2)),(AN F1 K3),(AN E1 M2)⟩
 refine RO.new (m' :=1903) (sk b0) rfl .plain rfl (Does.mk (α:=Int) u1 U0 bp rfl) fun p2 k1 C0 P0=>?_
 have p1:=AH (cs:=(List.replicate (((a0.fl % (3:UInt8)).toNat:Nat):Int).toNat [vI 0]).flatten) (xs:=J0) C0 L (Cells.mk u1 rfl)
 refine BB [4,7] (rk b0) ⟨?_,?_,trivial⟩
 refine RO.new (m' :=1919) (sk b0) rfl .plain rfl (Does.mk (α:=Int) q1 C0 bp rfl) fun j2 g1 A0 V0=>?_
 have E1:=AH (cs:=(List.replicate (((a0.fj % (3:UInt8)).toNat:Nat):Int).toNat [vI 0]).flatten) (xs:=H0) A0 L (Cells.mk q1 rfl)
 refine RD.nu 7 2047 b0 rfl .plain rfl (Does.mk (α:=Int) s1 A0 bp rfl) fun k2 j1 B0 M0=>?_
 have F1:=AH (cs:=(List.replicate (((a0.fh % (4:UInt8)).toNat:Nat):Int).toNat [vI 0]).flatten) (xs:=I0) B0 L (Cells.mk s1 rfl)
 obtain ⟨F4,P2⟩:=AF B0 (.a2 .d0)
 have M3:=Tt V0 (Tt M0 P2)
 exact M1 ((.slice (some ⟨k1,0,none⟩) (((a0.fl % (3:UInt8)).toNat:Nat):Int).toNat (((a0.fl % (3:UInt8)).toNat:Nat):Int).toNat),(List.replicate (((a0.fl % (3:UInt8)).toNat:Nat):Int).toNat [vI 0]).flatten,(.slice (some ⟨j1,0,none⟩) (((a0.fh % (4:UInt8)).toNat:Nat):Int).toNat (((a0.fh % (4:UInt8)).toNat:Nat):Int).toNat),(List.replicate (((a0.fh % (4:UInt8)).toNat:Nat):Int).toNat [vI 0]).flatten,(.slice (some ⟨g1,0,none⟩) (((a0.fj % (3:UInt8)).toNat:Nat):Int).toNat (((a0.fj % (3:UInt8)).toNat:Nat):Int).toNat),(List.replicate (((a0.fj % (3:UInt8)).toNat:Nat):Int).toNat [vI 0]).flatten) F4 (Tt P0 M3) ⟨(AN p1 M3),(AN F1 P2),(AN E1 (Tt M0 P2))⟩
 refine RO.new (m' :=2031) (sk b0) rfl .plain rfl (Does.mk (α:=Int) s1 C0 bp rfl) fun k2 j1 B0 M0=>RD.nu 4 2047 b0 rfl .plain rfl (Does.mk (α:=Int) q1 B0 bp rfl) fun j2 g1 A0 V0=>?_
 obtain ⟨G4,Q2⟩:=AF A0 (.a2 (.a1 .d0))
 have P3:=Tt M0 (Tt V0 Q2)
 exact M1 ((.slice (some ⟨k1,0,none⟩) (((a0.fl % (3:UInt8)).toNat:Nat):Int).toNat (((a0.fl % (3:UInt8)).toNat:Nat):Int).toNat),(List.replicate (((a0.fl % (3:UInt8)).toNat:Nat):Int).toNat [vI 0]).flatten,(.slice (some ⟨j1,0,none⟩) (((a0.fh % (4:UInt8)).toNat:Nat):Int).toNat (((a0.fh % (4:UInt8)).toNat:Nat):Int).toNat),(List.replicate (((a0.fh % (4:UInt8)).toNat:Nat):Int).toNat [vI 0]).flatten,(.slice (some ⟨g1,0,none⟩) (((a0.fj % (3:UInt8)).toNat:Nat):Int).toNat (((a0.fj % (3:UInt8)).toNat:Nat):Int).toNat),(List.replicate (((a0.fj % (3:UInt8)).toNat:Nat):Int).toNat [vI 0]).flatten) G4 (Tt P0 P3) ⟨(AN p1 P3),(AN (AH (cs:=(List.replicate (((a0.fh % (4:UInt8)).toNat:Nat):Int).toNat [vI 0]).flatten) (xs:=I0) B0 L (Cells.mk s1 rfl)) (Tt V0 Q2)),(AN (AH (cs:=(List.replicate (((a0.fj % (3:UInt8)).toNat:Nat):Int).toNat [vI 0]).flatten) (xs:=H0) A0 L (Cells.mk q1 rfl)) Q2)⟩
 refine Bf rfl ?_
 have h:=H5 _ h
 try dsimp only at h
 refine Ac<|Ab (AC rfl (U0.memA .t2))<|AS [vI (((a0.fj % (3:UInt8)).toNat:Nat):Int),vI (((a0.fh % (4:UInt8)).toNat:Nat):Int),vI (((a0.fl % (3:UInt8)).toNat:Nat):Int),p0] U0 .t3 (o4 rfl rfl rfl (St.o1 (α:=Tb) U0 .t1)) fun x8 z2 b5=>Aa<|Ao rfl ?_
 have W1:=BI z2 .t1
 have I7:=BJ z2 .t1
 have Q5:=BK (α:=Tb) (v:=p0) (xs:=Q0) W1 L (Bv (α:=Tb) z2 .t1 (AN D3 b5) hL)
 refine Ap hb0 func25 rfl (.cons (.many (cs:=[vI (((a0.fj % (3:UInt8)).toNat:Nat):Int),vI (((a0.fh % (4:UInt8)).toNat:Nat):Int),vI (((a0.fl % (3:UInt8)).toNat:Nat):Int),p0]) rfl rfl (W1.memA .t2)) .nil) rfl ?_
 cases h
 exact ⟨W1.ag,fun p q=>⟨p0,rfl,W1.kd Q5 q⟩⟩
def a9_p (n:Nat) (a0:Th) (a1:Int):Option Tf:=
  (ac_p n (⟨2,3,2,a0.fv,a0.fNums⟩:Th) a1).bind fun b0=>some b0
theorem a9_c (n:Nat) {L w} (hL:hl L w) (a0:Th) {v0_4:Value} (h0_4:Rep.R w L [v0_4] a0.fNums) {a1:Int}  {r:Tf} (h:a9_p n a0 a1 = some r) :
 Cl 6 #[.agg #[.int .u8 (a0.fj.toNat:Int),.int .u8 (a0.fh.toNat:Int),.int .u8 (a0.fl.toNat:Int),.int .u8 (a0.fv.toNat:Int),v0_4],vI a1] w (aj w fun w' u=>∃ v0_3:Value,u = .agg #[vI r.fj,vI r.fh,vI r.fl,v0_3]/\Rep.R w' L [v0_3] r.fu):=by
 unfold a9_p at h
 refine AG func6 rfl rfl rfl fun _ cs0 hb0=>Ac<|RG.bx (AB w) rfl rfl fun H0 y0 k0 A0=>RG.nl [vI 0,vI 0,vI 0,vN] k0 fun I0 z0 p0 B0=>Aa<|Ac<|Bg 0 rfl<|RG.now .plain (Bs (j:=0) (old:=[.int .u8 (a0.fj.toNat:Int),.int .u8 (a0.fh.toNat:Int),.int .u8 (a0.fl.toNat:Int),.int .u8 (a0.fv.toNat:Int),v0_4]) (news:=[.int .u8 2]) (new' :=[.int .u8 2,.int .u8 (a0.fh.toNat:Int),.int .u8 (a0.fl.toNat:Int),.int .u8 (a0.fv.toNat:Int),v0_4]) p0 .t1 rfl rfl rfl rfl rfl rfl (o1 rfl) rfl) fun J0 q0 C0=>Bg 1 rfl<|RG.now .plain (Bs (j:=1) (old:=[.int .u8 2,.int .u8 (a0.fh.toNat:Int),.int .u8 (a0.fl.toNat:Int),.int .u8 (a0.fv.toNat:Int),v0_4]) (news:=[.int .u8 3]) (new' :=[.int .u8 2,.int .u8 3,.int .u8 (a0.fl.toNat:Int),.int .u8 (a0.fv.toNat:Int),v0_4]) q0 .t1 rfl rfl rfl rfl rfl rfl (o1 rfl) rfl) fun K0 s0 D0=>Bg 2 rfl<|RG.now .plain (Bs (j:=2) (old:=[.int .u8 2,.int .u8 3,.int .u8 (a0.fl.toNat:Int),.int .u8 (a0.fv.toNat:Int),v0_4]) (news:=[.int .u8 2]) (new' :=[.int .u8 2,.int .u8 3,.int .u8 2,.int .u8 (a0.fv.toNat:Int),v0_4]) s0 .t1 rfl rfl rfl rfl rfl rfl (o1 rfl) rfl) fun M0 c0 E0=>Aa<|Ac<|Ab (AC rfl (c0.memA .t1))<|Ae rfl<|bk h fun b0 x0 h=>jE (bd 25) rfl (e2 rfl rfl) (fun p q=>ac_c n (c0.hL hL q) (⟨2,3,2,a0.fv,a0.fNums⟩:Th) (c0.km h0_4 q) x0) rfl fun P0 G0 v0 ⟨g0,hu_,j0⟩=>?_
 subst hu_
 obtain ⟨t0,F0⟩:=c0.agr v0
 refine AS [vI b0.fj,vI b0.fh,vI b0.fl,g0] t0 .hd (o4 rfl rfl rfl (AZ j0)) fun Q0 d0 u0=>Aa<|Ao rfl<|Ap hb0 func6 rfl (.cons (.many (cs:=[vI b0.fj,vI b0.fh,vI b0.fl,g0]) rfl rfl (d0.memA .hd)) .nil) rfl ?_
 cases h
 exact ⟨d0.ag,fun p q=>⟨g0,rfl,d0.kd (Az j0 u0) q⟩⟩
def aJ_p (_n:Nat) (a0:List Int):Option (List Int):=
  dP a0 (some ([]:List Int)) ((app ([]:List Int) a0).bind fun b0=>some b0)
theorem aJ_c (n:Nat) {L w} (_hL:hl L w) {a0:List Int} {v0_0:Value} (h0_0:Rep.R w L [v0_0] a0)  {r:List Int} (h:aJ_p n a0 = some r) :
 Cl 7 #[v0_0] w (aj w fun w' u=>∃ (v0_0:Value) (cs0_0:List Value),u = v0_0/\St w w' (aO w.heap.size [(3,Rep.size Int,v0_0,r.length,cs0_0)])/\Cells w' (bl (aO w.heap.size [(3,Rep.size Int,v0_0,r.length,cs0_0)]) ++ L) cs0_0 (r:List Int)):=by
 unfold aJ_p at h
 have hS0:=AB w
 refine AG func7 rfl rfl rfl fun _ cs0 hb0=>Ac<|Ag rfl<|Aa<|Aj<|Ac<|Ae rfl ?_
 rcases Rep.nilOr h0_0 with ⟨c1,he3,hx4⟩ | ⟨ad2,c1,he3⟩
 have h:=ll h hx4
 refine Ab (FV.eqlNil1 underlying30 rfl he3 rfl)<|Aa<|Be rfl<|Ac<|Ag rfl<|Aa<|Ao rfl ?_
 have b0:=hS0.nilRow 3 (Rep.size Int)
 have t0:=St.nilRowT hS0 3 (Rep.size Int)
 have k0:=AH (cs:=[]) (xs:=([]:List Int)) b0 L (AR _ _)
 refine Ap (u:=vN) hb0 func7 rfl (.cons (.tmp rfl) .nil) rfl ?_
 cases h
 exact ⟨b0.ag,fun p q=>⟨vN,[],rfl,b0.agree q,Cells.keep0 k0 q⟩⟩
 have h:=lz h
 refine Ab (FV.eqlNil0 underlying30 rfl he3 rfl)<|Aa<|BA rfl<|Au<|Ac<|Ai .plain rfl (jB Int hS0 iH) fun x0 s0 c0 u0=>Ae rfl<|bk h fun z0 q0 h=>RG.doesL .plain rfl (DoesL.app (α:=Int) (ys:=a0) q0 c0 (fun _ _=>.hd) iH rfl rfl (jD Int c0 L) (Src.rep (AT h0_0 c0))) fun g0 y0 ⟨j0,d0,v0,p0⟩=>Ag rfl<|Aa<|Ao rfl<|Ap (u:=g0) hb0 func7 rfl (.cons (.tmp rfl) .nil) rfl ?_
 cases h
 exact ⟨d0.ag,fun p q=>⟨g0,j0,rfl,d0.agree q,Cells.keep0 p0 q⟩⟩
def aO_p (n:Nat) (a0:Ta) (a1:Ta):Option Bool:=
  (ct_p n a0 a1).bind fun b0=>(if b0.2 = 0 then some (decide (b0.1 <= 0)) else some false)
theorem aO_c (n:Nat) {L w} (hL:hl L w) (a0:Ta) (a1:Ta)  {r:Bool} (h:aO_p n a0 a1 = some r) :
 Cl 11 #[.agg ((aa a0)).toArray,.agg ((aa a1)).toArray] w (aj w fun _ u=>u = .bool r):=by
 unfold aO_p at h
 refine AG func11 rfl rfl rfl fun _ cs0 hb0=>Ac<|RG.bx (AB w) rfl rfl fun t0 k0 g0 q0=>RG.bx g0 rfl rfl fun u0 p0 b0 s0=>Ag rfl<|Aa<|Ac<|Ab (AC rfl (b0.memA .t1))<|Ab (AC rfl (b0.memA .hd))<|bk h fun c0 j0 h=>Bi (.tuple #[vI c0.1,vI c0.2]) (bd 43) rfl (e2 rfl rfl) (fun p q=>ct_c n (b0.hL0 hL q) a0 a1 j0) rfl<|Ae rfl<|Ab (Ah rfl rfl)<|Ab (Ah rfl rfl)<|Ag rfl<|Ag rfl<|Aa<|Ac<|Ae rfl<|Ab (FV.eql (i:=c0.2) (j:=0) rfl rfl)<|Ae rfl<|RG.ifd (s:=15) rfl h (fun d0 h=>?_) (fun d0 h=>?_)
 refine AX (Ak rfl)<|AX (FV.leq (i:=c0.1) (j:=0) rfl rfl)<|RG.pt rfl rfl<|Ag rfl<|Aa<|Ao rfl<|Bc hb0 func11 rfl rfl ?_
 cases h
 exact b0.gv
 refine AL<|AL<|RG.pf rfl rfl<|Ag rfl<|Aa<|Ao rfl<|Bc hb0 func11 rfl rfl ?_
 cases h
 exact b0.gv

def aa_l1 (_n:Nat) (t0:List Ta) (j0:Nat) (p0:Int × Nat × (List Ta) -> Option ((List Ta) × Int)):Int × Nat × (List Ta) -> Option ((List Ta) × Int)
  | (c0,d0,b0)=>(if d0 < t0.length then (b0[j0 + d0]?).bind fun k0=>(idx (b0.drop j0) (((d0:Nat):Int) - 1)).bind fun s0=>jn (fun (x0,u0)=>p0 (x0,d0 + 1,u0)) (fun g0=>(if k0 = s0 then g0 (c0,b0) else (idx b0 c0).bind fun _x66803728174=>(put b0 ((c0.toNat:Nat):Int) k0).bind fun v0=>(chk (c0 + 1)).bind fun q0=>g0 (q0,v0))) else some (b0,c0))
def aa_l2 (n:Nat) (c0:List Ta) (u0:Ta × Int) (v0:Ta) (j0:Nat -> Option (Bool ⊕ Unit)):Nat -> Option (Bool ⊕ Unit)
  | b0=>(if b0 < c0.length then (c0[b0]?).bind fun k0=>(idx c0 (((b0:Nat):Int) - 1)).bind fun p0=>(if k0 = p0 then (cut c0 ((b0:Nat):Int) (c0.length:Int)).bind fun q0=>Option.bind (ao (aa_l1 n q0 b0) n (((b0:Nat):Int),1,c0)) (fun (d0,g0)=>(cut d0 g0 (d0.length:Int)).bind fun s0=>(cut (clr (⟨(0,0,0,0,0,0,0,0),(0,0,0,0,0,0,0,0)⟩:Ta) d0 g0.toNat s0.length) 0 g0).bind fun t0=>some (.inl ((decide (u0.1 = v0)) == (decide (t0.length = 1))))) else j0 (b0 + 1)) else some (.inr ()))
def aa_l3 (_n:Nat) (g0:(List Ta) × Int) (t0:(List Int) × Int) (j0:Nat × (List Ta) -> Option (List Ta)):Nat × (List Ta) -> Option (List Ta)
  | (b0,c0)=>(if b0 < g0.1.length then (g0.1[b0]?).bind fun k0=>(t0.1[b0]?).bind fun p0=>jn (fun q0=>j0 (b0 + 1,q0)) (fun d0=>(if 0 < p0 then (app c0 ([k0]:List Ta)).bind fun s0=>d0 s0 else d0 c0)) else some c0)
def aa_l4 (_n:Nat) (c0:(List Int) × Int) (a3:UInt8) (k0:Nat × (List Int) × (List Int) -> Option ((List Int) × (List Int))):Nat × (List Int) × (List Int) -> Option ((List Int) × (List Int))
  | (b0,d0,g0)=>(if b0 < c0.1.length then (c0.1[b0]?).bind fun j0=>(chk (j0 + ((a3.toNat:Nat):Int))).bind fun p0=>(dj p0 c0.2).bind fun q0=>(g0[b0]?).bind fun _x254=>(put g0 ((b0:Nat):Int) q0).bind fun t0=>(chk (c0.2 - 2)).bind fun s0=>(d0[b0]?).bind fun _x282=>(put d0 ((b0:Nat):Int) (min j0 (max 0 s0))).bind fun u0=>k0 (b0 + 1,u0,t0) else some (g0,d0))
def aa_p (n:Nat) (a0:Ti) (a1:Th) (a2:UInt8) (a3:UInt8):Option Bool:=
  (bN_p n).bind fun x0=>(if x0 = true then (ah_p n a0).bind fun b0=>(a9_p n a1 ((b0.1.length:Nat):Int)).bind fun d0=>(aJ_p n b0.1).bind fun y0=>(aJ_p n b0.1).bind fun z0=>Option.bind (ao (aa_l4 n b0 a3) n (0,z0,y0)) (fun (v0,u0)=>(aN_p n d0 b0.1 b0.2 (((a2 % (2:UInt8)).toNat:Nat):Int)).bind fun c0=>(aN_p n d0 v0 b0.2 (((a2 % (2:UInt8)).toNat:Nat):Int)).bind fun q0=>(chk (b0.2 - 1)).bind fun t0=>(aN_p n d0 u0 (max 1 t0) (((a2 % (2:UInt8)).toNat:Nat):Int)).bind fun s0=>(if c0.2 = q0.2 then (if c0.2 = s0.2 then (if c0.1 = q0.1 then (if c0.2 = 0 then (bt_p n d0 b0.1 b0.2 (((a2 % (2:UInt8)).toNat:Nat):Int)).bind fun j0=>(bF_p n d0 b0.1 b0.2).bind fun k0=>(if j0.2 = 0 then (if k0.2 = 0 then (if ((j0.1.length:Nat):Int) = b0.2 then (if ((k0.1.length:Nat):Int) = b0.2 then Option.bind (ao (aa_l3 n j0 k0) n (0,([]:List Ta))) (fun g0=>(am_p n (0:Int) (1:Int)).bind fun A0=>(aO_p n A0 c0.1).bind fun B0=>(if B0 = true then (am_p n (1:Int) (1:Int)).bind fun C0=>(aO_p n c0.1 C0).bind fun D0=>(if D0 = true then (aO_p n s0.1 c0.1).bind fun E0=>(if E0 = true then (am_p n (0:Int) (1:Int)).bind fun p0=>(if g0.length < 2 then some ((decide (c0.1 = p0)) == (decide (g0.length = 1))) else thn (ao (aa_l2 n g0 c0 p0) n 1) (fun _=>some ((decide (c0.1 = p0)) == (decide (g0.length = 1))))) else some false) else some false) else some false)) else some false) else some false) else some false) else some false) else some (decide (c0.2 = 7))) else some false) else some false) else some false)) else some false)
theorem aa_c (n:Nat) {L w} (hL:hl L w) (a0:Ti) {v0_1:Value} (h0_1:Rep.R w L [v0_1] a0.fJ) {v0_2:Value} (h0_2:Rep.R w L [v0_2] a0.fMore) {v0_3:Value} (h0_3:Rep.R w L [v0_3] a0.fLabels) (a1:Th) {v1_4:Value} (h1_4:Rep.R w L [v1_4] a1.fNums) (a2:UInt8) (a3:UInt8)  {r:Bool} (h:aa_p n a0 a1 a2 a3 = some r) :
 Cl 3 #[.agg #[.int .u8 (a0.fN.toNat:Int),v0_1,v0_2,v0_3,.int .u8 (a0.fK.toNat:Int)],.agg #[.int .u8 (a1.fj.toNat:Int),.int .u8 (a1.fh.toNat:Int),.int .u8 (a1.fl.toNat:Int),.int .u8 (a1.fv.toNat:Int),v1_4],.int .u8 (a2.toNat:Int),.int .u8 (a3.toNat:Int)] w (aj w fun _ u=>u = .bool r):=by
 unfold aa_p at h
 refine AG func3 rfl rfl rfl fun _ cs0 hb0=>Ac<|RG.bx (AB w) rfl rfl fun w11 b14 k8 X01=>RG.bx k8 rfl rfl fun w16 b19 z1 Y01=>Ag rfl<|Aa<|Aj<|Ac<|bk h fun y20 u00 h=>Bi (.bool y20) (bd 4) rfl ak (fun p q=>bN_c n (z1.hL0 hL q)  u00) rfl<|Ab (FV.not rfl)<|Aa<|MX.ifnb rfl h (fun W6 h=>?_) (fun W6 h=>?_)
 refine Au<|Ac<|Ab (AC rfl (z1.memA .t1))<|bk h fun b1 v00 h=>jE (bd 5) rfl (e1 rfl) (fun p q=>ah_c n (z1.hL hL q) a0 (z1.km h0_1 q) (z1.km h0_2 q) (z1.km h0_3 q) v00) rfl fun w23 z02 I8 ⟨v28,hu_,c1⟩=>?_
 subst hu_
 obtain ⟨E2,Z01⟩:=z1.agr I8
 refine Ae rfl<|Ab (Ah rfl rfl)<|Ab (Ah rfl rfl)<|Ag rfl<|Ag rfl<|Aa<|Ac<|Ab (AC rfl (E2.memA .hd))<|Ae rfl ?_
 have d02:b1.1.length <= 281474976710656:=Bh c1
 refine Ab (Bl (xs:=b1.1) underlying30 rfl c1)<|bk h fun I0 y00 h=>jE (bd 6) rfl (e2 rfl rfl) (fun p q=>a9_c n (E2.hL hL q) a1 (E2.km h1_4 q) y00) rfl fun w32 A02 J8 ⟨Q2,hu_,P1⟩=>?_
 subst hu_
 obtain ⟨x8,M3⟩:=E2.agr J8
 refine RG.nl [vI 0,vI 0,vI 0,vN] x8 fun w40 D2 y8 P3=>AS [vI I0.fj,vI I0.fh,vI I0.fl,Q2] y8 .hd (o4 rfl rfl rfl (AZ (Az P1 P3))) fun w45 F2 R5=>Aa<|Ac<|Ae rfl<|Ab (FV.rem8 (a:=a2) (b:=(2:UInt8)) rfl rfl (by decide)) ?_
 have s02:=(a2 % (2:UInt8)).toNat_lt
 refine Ab (FV.convN (i:=(a2 % (2:UInt8)).toNat) underlying5 underlying3 rfl (by omega))<|Ag rfl<|Aa<|Ac<|Ae rfl<|bk h fun D6 D00 h=>?_
 have M4:=Tt M3 (Tt P3 R5)
 refine jE (bd 7) rfl (e1 rfl) (fun p q=>eh (b0:=w.heap.size) (aJ_c n (F2.hL hL q) (Av (Az c1 M4) q) D00) q (Nat.le_trans F2.ag.size q.size)) rfl fun w52 R2 b02 ⟨v59,D5,b00,u6,R8⟩=>?_
 subst b00
 have X1:=fT F2 u6
 have U3:=jR F2 u6
 have V8:=AH (cs:=D5) (xs:=(D6:List Int)) X1 L (dW R8)
 refine Ae rfl<|bk h fun E6 E00 h=>jE (bd 7) rfl (e1 rfl) (fun p q=>eh (b0:=w.heap.size) (aJ_c n (X1.hL hL q) (Av (Az c1 (Tt M4 U3)) q) E00) q (Nat.le_trans X1.ag.size q.size)) rfl fun w66 U2 c02 ⟨v73,E5,c00,v6,Y8⟩=>?_
 subst c00
 have H5:=fT X1 v6
 have Y3:=jR X1 v6
 refine Ag rfl<|Ag rfl<|Aa<|Aj<|Ac<|Ae rfl ?_
 have P4:=Tt M4 (Tt U3 Y3)
 refine Ab (Bl (xs:=b1.1) underlying30 rfl (Az c1 P4))<|Ae rfl<|Aa<|Ay ?_
 obtain ⟨p8,b2⟩:=AF H5 (.a0 (.a0 (.a0 .done)))
 obtain ⟨t02,I9,s9⟩:=ax h
 refine MX.lf (α:=Nat × (List Int) × (List Int) × (List Value) × (List Value)) (fun ⟨M0,q1,s1,v1,x1⟩=>[(3,.int .u8 (a3.toNat:Int)),(9,v28),(10,vI b1.2),(11,vP D2),(12,vI (((a2 % (2:UInt8)).toNat:Nat):Int)),(13,R2),(14,U2),(46,vI ((b1.1.length:Nat):Int)),(47,vI ((M0:Nat):Int))]) (fun ⟨M0,q1,s1,v1,x1⟩=>[rr w 3 Int U2 q1.length v1,rr w 3 Int R2 s1.length x1,.cells D2 [vI I0.fj,vI I0.fh,vI I0.fl,Q2] 35]) (fun ⟨M0,q1,s1,v1,x1⟩ A5=>Cells A5 (bl [rr w 3 Int U2 q1.length v1,rr w 3 Int R2 s1.length x1,.cells D2 [vI I0.fj,vI I0.fh,vI I0.fl,Q2] 35] ++ L) v1 q1/\Cells A5 (bl [rr w 3 Int U2 q1.length v1,rr w 3 Int R2 s1.length x1,.cells D2 [vI I0.fj,vI I0.fh,vI I0.fl,Q2] 35] ++ L) x1 s1) (fun ⟨M0,q1,s1,v1,x1⟩=>(M0,q1,s1)) (0,E6,D6,E5,D5) I9 p8 ⟨(AN (AH (cs:=E5) (xs:=(E6:List Int)) H5 L (dW Y8)) b2),(AN V8 (Tt Y3 b2))⟩ ?_
 rintro B01 ⟨M0,q1,s1,v1,x1⟩ A5 g8 A1 H2 ⟨Y5,Z3⟩ h
 unfold aa_l4 at h
 try dsimp only at h
 refine Ac<|Ab (Bn (i:=M0) (j:=b1.1.length) rfl rfl)<|Aa<|Aj<|AW rfl h (fun X6 h=>?_) (fun X6 h=>?_)
 refine Au<|Aj<|Ay<|Ac<|Ae rfl<|Ag rfl<|Aa<|Ac<|Ae rfl<|Ae rfl<|Ae rfl<|Ae rfl<|bk h fun V2 s6 h=>?_
 have j6:=Tt P4 (Tt b2 H2)
 obtain ⟨x01,J01,Z8,u9,J7,M9,D9⟩:=Br (Az c1 j6) s6
 have b9:J7 = [vI V2]:=M9; subst b9
 refine Ab (Bu 1 M0 rfl Z8 rfl rfl u9)<|AU rfl (D9 0 _ rfl)<|Ae rfl ?_
 have q02:=a3.toNat_lt
 refine Ab (FV.convN (i:=a3.toNat) underlying5 underlying3 rfl (by omega))<|bk h fun Q00 W9 h=>Ab (BH (i:=V2) (j:=((a3.toNat:Nat):Int)) rfl rfl W9)<|Ae rfl<|bk h fun v02 X9 h=>Ab (FV.remc (i:=Q00) (j:=b1.2) rfl rfl X9)<|bk h fun c01 d00 h=>?_
 obtain ⟨H6,K01,d4,c6,K7,P9,k02⟩:=St.nth (α:=Int) A1 .t1 Z3 d00
 obtain ⟨U6,M01,Z5⟩:=BC (α:=Int) A1 .t1 c6
 obtain rfl:H6 = ⟨U6,0,none⟩:=by rw [Z5] at d4; cases d4; rfl
 have c9:K7 = [vI c01]:=P9; subst c9
 refine Ab (Bu 1 M0 rfl d4 rfl rfl c6)<|bk h fun j01 q00 h=>RG.acts' .plain (Acts.set (α:=Int) (i:=M0) q00 A1 Z5 (fun _=>.t1) Z3 rfl rfl rfl rfl rfl rfl) fun G02 ⟨M7,D3,I3,P8⟩=>Aa<|Am<|Ae rfl<|Ae rfl<|Ae rfl<|Ae rfl ?_
 obtain ⟨y01,P01,d9,v9,P7,Q9,E9⟩:=Br (Az c1 (Tt j6 I3)) s6
 have g9:P7 = [vI V2]:=Q9; subst g9
 refine Ab (Bu 1 M0 rfl d9 rfl rfl v9)<|AU rfl (E9 0 _ rfl)<|Ae rfl<|bk h fun t6 Y9 h=>Ab (FV.subc (i:=b1.2) (j:=2) rfl rfl Y9)<|Ab (FV.max2 (i:=0) (j:=t6) rfl rfl)<|Ab (FV.min2 (i:=V2) (j:=max 0 t6) rfl rfl)<|bk h fun d01 g00 h=>?_
 have g6:=AN Y5 I3
 obtain ⟨I6,Q01,g4,d6,Q7,R9,p02⟩:=St.nth (α:=Int) D3 .hd g6 g00
 obtain ⟨V6,R01,b6⟩:=BC (α:=Int) D3 .hd d6
 obtain rfl:I6 = ⟨V6,0,none⟩:=by rw [b6] at g4; cases g4; rfl
 have j9:Q7 = [vI d01]:=R9; subst j9
 refine Ab (Bu 1 M0 rfl g4 rfl rfl d6)<|bk h fun k01 s00 h=>RG.acts' .plain (Acts.set (α:=Int) (i:=M0) s00 D3 b6 (fun _=>.hd) g6 rfl rfl rfl rfl rfl rfl) fun H02 ⟨R7,q8,I5,Q8⟩=>Aa<|AE<|Am<|Ab (Bp (i:=M0) (j:=1) rfl rfl (by omega))<|Ae rfl<|Aa<|g8 (M0 + 1,k01,j01,R7,M7) q8 (Tt H2 (Tt I3 I5)) ⟨Q8,(AN P8 I5)⟩ h
 refine Bf rfl ?_
 have h:=s9 _ h
 try dsimp only at h
 refine Ac<|Ab (AC rfl (A1.memA .t2))<|Ae rfl<|Ae rfl<|Ae rfl<|bk h fun d0 x00 h=>?_
 have J4:=Tt P3 (Tt R5 (Tt U3 (Tt Y3 (Tt b2 H2))))
 refine Bi (.tuple #[.agg ((aa d0.1)).toArray,vI d0.2]) (bd 8) rfl (e4 rfl rfl rfl rfl) (fun p q=>aN_c n (A1.hL0 hL q) I0 (A1.kd (Az P1 J4) q) (A1.kd (Az c1 (Tt M3 J4)) q) x00) rfl<|Ae rfl<|Ab (Ah rfl rfl)<|Ab (Ah rfl rfl)<|RG.nl zL A1 fun I02 J0 s8 I2=>AS (aa d0.1) s8 .hd (ah rfl) fun J02 V1 J2=>Ag rfl<|Aa<|Ac<|Ab (AC rfl (V1.memA .t3))<|Ae rfl<|Ae rfl<|Ae rfl<|bk h fun R1 z00 h=>?_
 have k6:=Tt J4 (Tt I2 J2)
 refine Bi (.tuple #[.agg ((aa R1.1)).toArray,vI R1.2]) (bd 8) rfl (e4 rfl rfl rfl rfl) (fun p q=>aN_c n (V1.hL0 hL q) I0 (V1.kd (Az P1 k6) q) (Av (St.lend (α:=Int) (L:=L) V1 .t2 (AN Z3 (Tt I2 J2)) hL) q) z00) rfl<|Ae rfl<|Ab (Ah rfl rfl)<|Ab (Ah rfl rfl)<|RG.nl zL V1 fun K02 G01 t8 J3=>AS (aa R1.1) t8 .hd (ah rfl) fun M02 W1 K3=>Ag rfl<|Aa<|Ac<|Ab (AC rfl (W1.memA .t4))<|Ae rfl<|Ae rfl<|bk h fun R00 Z9 h=>Ab (FV.subc (i:=b1.2) (j:=1) rfl rfl Z9)<|Ab (FV.max2 (i:=1) (j:=R00) rfl rfl)<|Ae rfl<|bk h fun F0 A00 h=>?_
 have p6:=Tt k6 (Tt J3 K3)
 refine Bi (.tuple #[.agg ((aa F0.1)).toArray,vI F0.2]) (bd 8) rfl (e4 rfl rfl rfl rfl) (fun p q=>aN_c n (W1.hL0 hL q) I0 (W1.kd (Az P1 p6) q) (Av (St.lend (α:=Int) (L:=L) W1 .t2 (AN Y5 (Tt I2 (Tt J2 (Tt J3 K3)))) hL) q) A00) rfl<|Ae rfl<|Ab (Ah rfl rfl)<|Ab (Ah rfl rfl)<|RG.nl zL W1 fun P02 K0 v8 J5=>AS (aa F0.1) v8 .hd (ah rfl) fun Q02 j1 K5=>Ag rfl<|Aa<|Aj<|Ac<|Ae rfl<|Ae rfl<|Ab (FV.neq (i:=d0.2) (j:=R1.2) rfl rfl)<|Ae rfl<|RG.ifn (s:=103) rfl h (fun Y6 h=>?_) (fun Y6 h=>?_)
 refine AX (Ak rfl)<|AX (Ak rfl)<|AX (FV.neq (i:=d0.2) (j:=F0.2) rfl rfl)<|RG.pf rfl rfl<|Ae rfl<|RG.ifn (s:=108) rfl h (fun Z6 h=>?_) (fun Z6 h=>?_)
 refine AX (AC rfl (j1.memA .t2))<|AX (AC rfl (j1.memA .t1))<|AX (FV.neqV (xs:=((aa d0.1)).toArray) (ys:=((aa R1.1)).toArray) rfl rfl (by kernel_rfl) (aG d0.1 R1.1))<|RG.pf rfl rfl<|Aa<|MX.ifn rfl h (fun b7 h=>?_) (fun b7 h=>?_)
 refine Au<|Aj<|Ac<|Ae rfl<|Ab (FV.neq (i:=d0.2) (j:=0) rfl rfl)<|Aa<|MX.ifn rfl h (fun c7 h=>?_) (fun c7 h=>?_)
 refine Au<|Ac<|Ab (AC rfl (j1.memA .t5))<|Ae rfl<|Ae rfl<|Ae rfl<|bk h fun D1 B00 h=>?_
 have K4:=Tt p6 (Tt J5 K5)
 refine jE (bd 9) rfl (e4 rfl rfl rfl rfl) (fun p q=>bt_c n (j1.hL hL q) I0 (Av (Az P1 K4) q) (Av (Az c1 (Tt M3 K4)) q) B00) rfl fun R02 B02 K8 ⟨x6,hu_,q6⟩=>?_
 subst hu_
 obtain ⟨E3,M5⟩:=j1.agr K8
 refine Ae rfl<|Ab (Ah rfl rfl)<|Ab (Ah rfl rfl)<|Ag rfl<|Ag rfl<|Aa<|Ac<|Ab (AC rfl (E3.memA .t5))<|Ae rfl<|Ae rfl<|bk h fun W2 C00 h=>jE (bd 10) rfl (e3 rfl rfl rfl) (fun p q=>bF_c n (E3.hL hL q) I0 (Av (Az P1 (Tt K4 M5)) q) (Av (Az c1 (Tt P4 (Tt b2 (Tt H2 (Tt I2 (Tt J2 (Tt J3 (Tt K3 (Tt J5 (Tt K5 M5)))))))))) q) C00) rfl fun U02 C02 M8 ⟨y6,hu_,Q4⟩=>?_
 subst hu_
 obtain ⟨M1,P5⟩:=E3.agr M8
 refine Ae rfl<|Ab (Ah rfl rfl)<|Ab (Ah rfl rfl)<|Ag rfl<|Ag rfl<|Aa<|Aj<|Ac<|Ae rfl<|Ab (FV.neq (i:=D1.2) (j:=0) rfl rfl)<|Ae rfl<|RG.ifn (s:=134) rfl h (fun d7 h=>?_) (fun d7 h=>?_)
 refine AX (Ak rfl)<|AX (FV.neq (i:=W2.2) (j:=0) rfl rfl)<|RG.pf rfl rfl<|Ae rfl<|RG.ifn (s:=138) rfl h (fun g7 h=>?_) (fun g7 h=>?_)
 refine AX (Ak rfl) ?_
 have D4:=Az q6 P5
 have g02:D1.1.length <= 281474976710656:=Bh D4
 refine AX (Bl (xs:=D1.1) underlying46 rfl D4)<|AX (Ak rfl)<|AX (FV.neq (i:=((D1.1.length:Nat):Int)) (j:=b1.2) rfl rfl)<|RG.pf rfl rfl<|Ae rfl<|RG.ifn (s:=144) rfl h (fun j7 h=>?_) (fun j7 h=>?_)
 refine AX (Ak rfl) ?_
 have j02:W2.1.length <= 281474976710656:=Bh Q4
 refine AX (Bl (xs:=W2.1) underlying29 rfl Q4)<|AX (Ak rfl)<|AX (FV.neq (i:=((W2.1.length:Nat):Int)) (j:=b1.2) rfl rfl)<|RG.pf rfl rfl<|Aa<|MX.ifn rfl h (fun k7 h=>?_) (fun k7 h=>?_)
 refine Au<|Ac<|Ag rfl<|Aa<|Aj<|Ac<|Ae rfl<|Ab (Bl (xs:=D1.1) underlying46 rfl D4)<|Ae rfl<|Aa<|Ay ?_
 have G5:=M1.nilRow 42 (Rep.size Ta)
 have Q5:=St.nilRowT M1 42 (Rep.size Ta)
 obtain ⟨z8,Q3⟩:=AF G5 (.a0 (.a0 (.a1 .done)))
 obtain ⟨u02,J9,t9⟩:=ax h
 refine MX.lf (α:=Nat × (List Ta) × Value × (List Value)) (fun ⟨U0,j0,p0,R0⟩=>[(16,vP J0),(20,vP K0),(23,y6),(24,p0),(150,x6),(151,vI ((D1.1.length:Nat):Int)),(152,vI ((U0:Nat):Int))]) (fun ⟨U0,j0,p0,R0⟩=>[rr w 42 Ta p0 j0.length R0,.cells K0 (aa F0.1) 42,.cells J0 (aa d0.1) 42]) (fun ⟨U0,j0,p0,R0⟩ z6=>Cells z6 (bl [rr w 42 Ta p0 j0.length R0,.cells K0 (aa F0.1) 42,.cells J0 (aa d0.1) 42] ++ L) R0 j0) (fun ⟨U0,j0,p0,R0⟩=>(U0,j0)) (0,([]:List Ta),vN,[]) J9 z8 (AN (AH (cs:=[]) (xs:=([]:List Ta)) G5 L (AR _ _)) Q3) ?_
 rintro C01 ⟨U0,j0,p0,R0⟩ z6 j8 k0 R3 P2 h
 unfold aa_l3 at h
 try dsimp only at h
 refine Ac<|Ab (Bn (i:=U0) (j:=D1.1.length) rfl rfl)<|Aa<|Aj<|AW rfl h (fun p7 h=>?_) (fun p7 h=>?_)
 refine Au<|Aj<|Ay<|Ac<|Ae rfl<|bk h fun g1 j00 h=>?_
 obtain ⟨z01,U01,k9,x9,W01,U9,F9⟩:=Br (Az q6 (Tt P5 (Tt Q5 (Tt Q3 R3)))) j00
 obtain rfl:=bU U9
 refine Ab (Bu 16 U0 rfl k9 rfl rfl x9)<|Ab (AC rfl F9)<|RG.nl zL k0 fun Y02 H01 A8 K2=>Ag rfl<|AS (aa g1) A8 .hd (ah rfl) fun Z02 G2 M2=>Aa<|Ac<|Ae rfl<|Ae rfl<|bk h fun C6 k00 h=>?_
 obtain ⟨A01,V01,p9,y9,U7,V9,G9⟩:=Br (Az Q4 (Tt Q5 (Tt Q3 (Tt R3 (Tt K2 M2))))) k00
 have q9:U7 = [vI C6]:=V9; subst q9
 refine Ab (Bu 1 U0 rfl p9 rfl rfl y9)<|AU rfl (G9 0 _ rfl)<|Ab (FV.gtr (i:=C6) (j:=0) rfl rfl)<|Aa<|MX.jf (α:=(List Ta) × Value × (List Value)) (fun ⟨u1,B1,y1⟩=>[(16,vP J0),(20,vP K0),(23,y6),(24,B1),(150,x6),(151,vI ((D1.1.length:Nat):Int)),(152,vI ((U0:Nat):Int))]) (fun ⟨u1,B1,y1⟩=>[rr w 42 Ta B1 u1.length y1,.cells K0 (aa F0.1) 42,.cells J0 (aa d0.1) 42]) (fun ⟨u1,B1,y1⟩ B6=>Cells B6 (bl [rr w 42 Ta B1 u1.length y1,.cells K0 (aa F0.1) 42,.cells J0 (aa d0.1) 42] ++ L) y1 u1) (fun ⟨u1,B1,y1⟩=>u1) G2 h ?_ ?_
 rintro ⟨u1,B1,y1⟩ B6 B8 F8 U8 h
 try dsimp only at h
 refine AE<|Am<|Ab (Bp (i:=U0) (j:=1) rfl rfl (by omega))<|Ae rfl<|Aa<|j8 (U0 + 1,u1,B1,y1) B8 (Tt R3 (Tt K2 (Tt M2 F8))) U8 h
 intro D01 F5 h
 try dsimp only at h
 refine AW rfl h (fun q7 h=>?_) (fun q7 h=>?_)
 refine Am<|Ae rfl<|Ab (AC rfl (G2.memA .hd))<|Ai .plain rfl (Bb (α:=Ta) (xs:=([g1]:List Ta)) (vs:=[.agg ((aa g1)).toArray]) (ds' :=(aa g1)) rfl G2 cN rfl (e1 rfl) (by kernel_rfl) rfl) fun b03 I01 F3 V5=>bk h fun p01 t00 h=>RG.doesL .plain rfl (DoesL.app (α:=Ta) (ys:=([g1]:List Ta)) t00 F3 (fun _ _=>.t2) cN rfl rfl (AN P2 (Tt K2 (Tt M2 V5))) (Src.row (α:=Ta) F3 .hd (AH (cs:=(aa g1)) (xs:=(([g1]:List Ta):List Ta)) F3 L (Ar (cs:=(aa g1)) (ds:=[]) (aU g1.fN g1.fD) (AR _ _))))) fun W00 c03 ⟨V7,C8,G8,W8⟩=>Ag rfl<|Aa ?_
 obtain ⟨D8,W5⟩:=AF C8 .d2
 exact F5 (p01,W00,V7) D8 (Tt V5 (Tt G8 W5)) (AN W8 W5) h
 refine Au ?_
 obtain ⟨E8,X5⟩:=AF G2 .d1
 exact F5 (j0,p0,R0) E8 X5 (AN P2 (Tt K2 (Tt M2 X5))) h
 refine Bf rfl ?_
 have h:=t9 _ h
 try dsimp only at h
 refine Aj<|du 18 fun c0 g0=>bk h fun F6 F00 h=>BD 0 1 16777212 (.agg ((aa F6)).toArray) c0 rfl g0 (bd 12) rfl (e2 rfl rfl) (fun p q=>am_c n (k0.hL0 hL q)  F00) rfl<|Rx 1 16777212 c0 rfl g0 (AC rfl (k0.memA .t2))<|bk h fun t01 G00 h=>BD 2 7 16777208 (.bool t01) c0 rfl g0 (bd 11) rfl (e2 rfl rfl) (fun p q=>aO_c n (k0.hL0 hL q) F6 d0.1 G00) rfl<|Rv 3 c0 rfl g0 (fun _=>Ak rfl)<|RD.ifb (s:=170) rfl h (fun s7 h=>?_) (fun s7 h=>?_)
 refine RD.val (i:=4) (m' :=31) (W:=16777152) (tk c0) rfl g0 (.yes rfl rfl) (AC rfl (k0.memA .t2)) rfl<|bk h fun G6 H00 h=>RD.callq (i:=5) (m' :=63) (W:=16777152) (tk c0) rfl g0 (v:=.agg ((aa G6)).toArray) (fst:=[]) (cap:=[]) (.yes rfl rfl) (bd 12) rfl (e2 rfl rfl) (fun p q=>am_c n (k0.hL0 hL q)  H00) rfl<|bk h fun u01 I00 h=>RD.callq (i:=6) (m' :=127) (W:=16777088) (tk c0) rfl g0 (v:=.bool u01) (fst:=[]) (cap:=[]) (.yes rfl rfl) (bd 11) rfl (e2 rfl rfl) (fun p q=>aO_c n (k0.hL0 hL q) d0.1 G6 I00) rfl<|Rv 7 c0 rfl g0 (fun _=>FV.pick_t rfl rfl)<|Rv 8 c0 rfl g0 (fun _=>Ak rfl)<|RD.ifb (s:=175) rfl h (fun t7 h=>?_) (fun t7 h=>?_)
 refine RD.val (i:=9) (m' :=1023) (W:=16775168) (tk c0) rfl g0 (.yes rfl rfl) (AC rfl (k0.memA .t1)) rfl<|RD.val (i:=10) (m' :=2047) (W:=16775168) (tk c0) rfl g0 (.yes rfl rfl) (AC rfl (k0.memA .t2)) rfl<|bk h fun v01 J00 h=>RD.callq (i:=11) (m' :=4095) (W:=16773120) (tk c0) rfl g0 (v:=.bool v01) (fst:=[]) (cap:=[]) (.yes rfl rfl) (bd 11) rfl (e2 rfl rfl) (fun p q=>aO_c n (k0.hL0 hL q) F0.1 d0.1 J00) rfl<|Rv 12 c0 rfl g0 (fun _=>FV.pick_t rfl rfl)<|Rv 13 c0 rfl g0 (fun _=>Ak rfl)<|RD.ifb (s:=180) rfl h (fun u7 h=>?_) (fun u7 h=>?_)
 refine bk h fun q0 K00 h=>RD.callq (i:=15) (m' :=49151) (W:=16580608) (tk c0) rfl g0 (v:=.agg ((aa q0)).toArray) (fst:=[]) (cap:=[]) (.yes rfl rfl) (bd 12) rfl (e2 rfl rfl) (fun p q=>am_c n (k0.hL0 hL q)  K00) rfl<|RD.vP 17 180223 c0 rfl g0 (.yes rfl rfl) (fun _=>Ak rfl) rfl<|BB [14,18] (rk c0) ⟨?_,?_,trivial⟩
 refine Bd (m' :=196607) (sk c0) rfl (.yes rfl rfl) rfl (AC rfl (k0.memA .t2))<|RD.vP 16 262143 c0 rfl g0 (.yes rfl rfl) (fun _=>FV.eqlV (v:=.agg ((aa d0.1)).toArray) (u:=.agg ((aa q0)).toArray) rfl rfl (aG d0.1 q0)) rfl<|AM (i:=18) (rk c0) (RO.enterPT (m' :=524287) (fst:=[]) (cap:=[]) (vs:=[p0]) (sk c0) rfl rfl (.yes rfl rfl) (bd 13) func13 rfl rfl rfl rfl (e1 rfl) rfl (fun _ W7 E1 K9=>?_))
 refine Ac<|Ag rfl<|Aa<|Aj<|Ac<|Ae rfl ?_
 have z9:j0.length <= 4294967296:=St.rowLe (α:=Ta) k0 .hd
 obtain ⟨J6,v7,j4⟩:=St.rowV (α:=Ta) k0 .hd
 refine Ab (FV.lenV underlying46 rfl j4)<|Ab (Bn (i:=j0.length) (j:=2) rfl rfl)<|Aa<|AW rfl h (fun s3 h=>?_) (fun s3 h=>?_)
 refine Ac<|Ae rfl<|Ag rfl<|Aa<|Ao rfl<|Ap (u:=p0) E1 func13 rfl (.cons (.tmp rfl) .nil) rfl ?_
 obtain ⟨M6,I7,v4⟩:=St.rowV (α:=Ta) k0 .hd
 refine AM (i:=19) (rk c0) (Bd (m' :=1048575) (sk c0) rfl (.yes rfl rfl) rfl (FV.lenV underlying46 rfl v4) ?_)
 refine AM (i:=20) (rk c0) (Bd (m' :=2097151) (sk c0) rfl (.yes rfl rfl) rfl (FV.eqlN (i:=j0.length) (j:=1) rfl rfl) ?_)
 refine AM (i:=21) (rk c0) (Bd (m' :=4194303) (sk c0) rfl (.yes rfl rfl) rfl (FV.eqlB (a:=(decide (d0.1 = q0))) (b:=(decide (j0.length = 1))) underlying4 rfl rfl) ?_)
 refine AM (i:=22) (rk c0) (Bd (m' :=8388607) (sk c0) rfl .plain rfl (FV.pick_t rfl rfl) ?_)
 refine AM (i:=23) (rk c0) (Bd (m' :=16777215) (sk c0) rfl .plain rfl (Ba rfl) ?_)
 refine AJ (dk c0)<|Ao rfl<|Bc hb0 func3 rfl rfl ?_
 cases h
 exact k0.gv
 refine Au<|Aj<|Ac<|Ag rfl<|Aa<|Ay<|tn h fun M00 H4 k2=>MX.lo (α:=Nat) (fun u0=>[(0,p0),(3,vI ((u0:Nat):Int))]) (fun u0=>[rr w 42 Ta p0 j0.length R0,.cells K0 (aa F0.1) 42,.cells J0 (aa d0.1) 42]) (fun u0=>u0) 1 H4 k0 ?_
 rintro P6 u0 b01 B3 t0 g2 h
 unfold aa_l2 at h
 try dsimp only at h
 refine Aj<|Ac<|Ae rfl<|Ae rfl ?_
 obtain ⟨K6,x7,k4⟩:=St.rowV (α:=Ta) t0 .hd
 refine Ab (FV.lenV underlying46 rfl k4)<|Ab (Bn (i:=u0) (j:=j0.length) rfl rfl)<|Aa<|AW rfl h (fun u3 h=>?_) (fun u3 h=>?_)
 refine Au<|Aj<|Ay<|Aj<|du 10 fun y0 A0=>Rv 0 y0 rfl A0 (fun _=>Ak rfl)<|Rv 1 y0 rfl A0 (fun _=>Ak rfl)<|bk h fun A2 b5 h=>?_
 have K1:=AN P2 g2
 obtain ⟨X2,y7,F1,p2,X7,R4,E4⟩:=St.nth (α:=Ta) t0 .hd K1 b5
 obtain ⟨g3,z7,p4⟩:=BC (α:=Ta) t0 .hd p2
 obtain rfl:X2 = ⟨g3,0,none⟩:=by rw [p4] at F1; cases F1; rfl
 obtain rfl:=bU R4
 refine Rv 2 y0 rfl A0 (fun _=>Bu 16 u0 rfl F1 rfl rfl p2)<|Rx 3 512 y0 rfl A0 (AC rfl E4)<|Rv 4 y0 rfl A0 (fun _=>Ak rfl)<|Rv 5 y0 rfl A0 (fun _=>Ak rfl)<|Rv 6 y0 rfl A0 (fun _=>FV.subI (i:=((u0:Nat):Int)) (j:=1) rfl rfl (by omega))<|bk h fun B2 c5 h=>?_
 obtain ⟨y4,d5⟩:=aJ c5
 obtain ⟨Y2,A7,G1,q2,Y7,U4,F4⟩:=St.nth (α:=Ta) t0 .hd K1 d5
 obtain ⟨j3,B7,q4⟩:=BC (α:=Ta) t0 .hd q2
 obtain rfl:Y2 = ⟨j3,0,none⟩:=by rw [q4] at G1; cases G1; rfl
 obtain rfl:=bU U4
 refine Rv 7 y0 rfl A0 (fun _=>FV.idxAddr (m:=16) (i:=(((u0:Nat):Int) - 1).toNat) rfl rfl G1 rfl y4 q2)<|Rx 8 512 y0 rfl A0 (AC rfl F4)<|Rv 9 y0 rfl A0 (fun _=>FV.eqlV (v:=.agg ((aa A2)).toArray) (u:=.agg ((aa B2)).toArray) rfl rfl (aG A2 B2))<|AJ (dk y0)<|AW rfl h (fun v3 h=>?_) (fun v3 h=>?_)
 refine Ac<|Ae rfl<|Ae rfl<|bk h fun B5 s5 h=>RG.valE .plain rfl (FV.cutRow (α:=Ta) s5 t0 .hd rfl rfl ⟨_,rfl⟩ rfl) fun x2 Z0=>?_
 have A9:=Z0.le
 refine Ag rfl<|Aa<|Aj<|Ac<|Ag rfl<|Aa<|Ay ?_
 obtain ⟨P00,I4,x4⟩:=ax h
 refine MX.lf (α:=Int × Nat × (List Ta) × (List Value)) (fun ⟨C0,s0,D0,G0⟩=>[(0,p0),(3,vI C0),(4,x2),(5,vI ((s0:Nat):Int))]) (fun ⟨C0,s0,D0,G0⟩=>[rr w 42 Ta p0 D0.length G0,.cells K0 (aa F0.1) 42,.cells J0 (aa d0.1) 42]) (fun ⟨C0,s0,D0,G0⟩ y2=>Cells y2 (bl [rr w 42 Ta p0 D0.length G0,.cells K0 (aa F0.1) 42,.cells J0 (aa d0.1) 42] ++ L) G0 D0) (fun ⟨C0,s0,D0,G0⟩=>(C0,s0,D0)) (((u0:Nat):Int),1,j0,R0) I4 t0 K1 ?_
 rintro Q6 ⟨C0,s0,D0,G0⟩ y2 C3 v0 V3 Q0 h
 unfold aa_l1 at h
 try dsimp only at h
 refine Aj<|Ac<|Ae rfl<|Ae rfl<|Ab (FV.lenSub underlying46 Z0 rfl)<|Ab (Bn (i:=s0) (j:=B5.length) rfl rfl)<|Aa<|AW rfl h (fun x3 h=>?_) (fun x3 h=>?_)
 refine Au<|Aj<|Ay<|Aj<|du 10 fun z0 B0=>Rv 0 z0 rfl B0 (fun _=>Ak rfl)<|Rv 1 z0 rfl B0 (fun _=>Ak rfl)<|bk h fun p1 g5 h=>?_
 obtain ⟨Z2,C7,k1,B4,Z7,V4,u2⟩:=St.nth (α:=Ta) v0 .hd Q0 g5
 obtain ⟨k3,D7,s4⟩:=BC (α:=Ta) v0 .hd B4
 obtain rfl:Z2 = ⟨k3,0,none⟩:=by rw [s4] at k1; cases k1; rfl
 obtain rfl:=bU V4
 refine Rv 2 z0 rfl B0 (fun _=>FV.idxSub (i:=s0) rfl Z0 k1 rfl rfl rfl (by omega))<|Rx 3 512 z0 rfl B0 (AC rfl u2)<|Rv 4 z0 rfl B0 (fun _=>Ak rfl)<|Rv 5 z0 rfl B0 (fun _=>Ak rfl)<|Rv 6 z0 rfl B0 (fun _=>FV.subI (i:=((s0:Nat):Int)) (j:=1) rfl rfl (by omega))<|bk h fun C2 j5 h=>?_
 obtain ⟨z4,k5⟩:=aJ j5
 have p00:=List.getElem?_drop.symm.trans k5
 obtain ⟨b3,E7,H1,C4,b8,W4,G4⟩:=St.nth (α:=Ta) v0 .hd Q0 p00
 obtain ⟨p3,F7,u4⟩:=BC (α:=Ta) v0 .hd C4
 obtain rfl:b3 = ⟨p3,0,none⟩:=by rw [u4] at H1; cases H1; rfl
 obtain rfl:=bU W4
 refine Rv 7 z0 rfl B0 (fun _=>FV.idxSub (i:=(((s0:Nat):Int) - 1).toNat) rfl Z0 H1 rfl rfl z4 (by omega))<|Rx 8 512 z0 rfl B0 (AC rfl G4)<|Rv 9 z0 rfl B0 (fun _=>FV.neqV (xs:=((aa p1)).toArray) (ys:=((aa C2)).toArray) rfl rfl (by kernel_rfl) (aG p1 C2))<|AJ (dk z0)<|MX.jf (α:=Int × (List Ta) × (List Value)) (fun ⟨P0,E0,H0⟩=>[(0,p0),(3,vI P0),(4,x2),(5,vI ((s0:Nat):Int))]) (fun ⟨P0,E0,H0⟩=>[rr w 42 Ta p0 E0.length H0,.cells K0 (aa F0.1) 42,.cells J0 (aa d0.1) 42]) (fun ⟨P0,E0,H0⟩ z2=>Cells z2 (bl [rr w 42 Ta p0 E0.length H0,.cells K0 (aa F0.1) 42,.cells J0 (aa d0.1) 42] ++ L) H0 E0) (fun ⟨P0,E0,H0⟩=>(P0,E0)) v0 h ?_ ?_
 rintro ⟨P0,E0,H0⟩ z2 G3 W3 b4 h
 try dsimp only at h
 refine AE<|Am<|Ae rfl<|Ab (Bp (i:=s0) (j:=1) rfl rfl (by omega))<|Ag rfl<|Aa<|C3 (P0,s0 + 1,E0,H0) G3 (Tt V3 W3) b4 h
 intro R6 U1 h
 try dsimp only at h
 refine MX.ifn rfl h (fun y3 h=>?_) (fun y3 h=>?_)
 refine Au<|U1 (C0,D0,G0) v0 (Tr.refl _ _) Q0 h
 refine Ac<|Ae rfl<|Ae rfl<|Ae rfl<|Ae rfl<|Ab (FV.idxSub (i:=s0) rfl Z0 k1 rfl rfl rfl (by omega))<|Ab (AC rfl u2)<|bk h fun g01 p5 h=>?_
 obtain ⟨A4,q5⟩:=aJ p5
 obtain ⟨c3,G7,I1,s2,c8,X4,H9⟩:=St.nth (α:=Ta) v0 .hd Q0 q5
 obtain ⟨q3,H7,j2⟩:=BC (α:=Ta) v0 .hd s2
 obtain rfl:c3 = ⟨q3,0,none⟩:=by rw [j2] at I1; cases I1; rfl
 obtain rfl:=bU X4
 refine Ab (Bu 16 (C0.toNat) rfl I1 rfl A4 s2)<|bk h fun C5 u5 h=>RG.acts' .plain (Acts.set (α:=Ta) (i:=C0.toNat) u5 v0 j2 (fun _=>.hd) Q0 rfl rfl rfl rfl (aU p1.fN p1.fD) rfl) fun Y00 ⟨A3,H3,X3,c4⟩=>Aa<|Am<|Ae rfl<|bk h fun y5 Y4 h=>Ab (BH (i:=C0) (j:=1) rfl rfl Y4)<|Ag rfl<|Aa<|U1 (y5,C5,A3) H3 X3 c4 h
 refine Bf rfl ?_
 have h:=x4 _ h
 try dsimp only at h
 refine Ac<|Ae rfl<|Ae rfl<|bk h fun q01 v5 h=>RG.valE .plain rfl (FV.cutRow (α:=Ta) v5 v0 .hd rfl rfl ⟨_,rfl⟩ rfl) fun X00 v2=>?_
 have B9:=v2.le
 refine RG.doesN .plain (DoesL.clear (α:=Ta) (x0:=(⟨(0,0,0,0,0,0,0,0),(0,0,0,0,0,0,0,0)⟩:Ta)) v0 v2 (fun _=>.hd) cN rfl Q0 (fun _ _=>(aU (0,0,0,0,0,0,0,0) (0,0,0,0,0,0,0,0)))) fun U00 Z00 ⟨Z4,d8,W0,H8,X8⟩=>?_
 subst Z4
 refine Aa<|Ac<|Ae rfl<|Ae rfl<|bk h fun C1 x5 h=>RG.valE .plain rfl (FV.cutRow (α:=Ta) x5 W0 .hd rfl rfl rfl ⟨_,rfl⟩) fun z5 Q1=>?_
 have C9:=Q1.le
 refine Ag rfl<|Aa ?_
 have h:=ap h k2
 refine Ao rfl<|Ap (u:=z5) E1 func13 rfl (.cons (.tmp rfl) .nil) rfl<|AM (i:=19) (rk c0) (Bd (m' :=1048575) (sk c0) rfl (.yes rfl rfl) rfl (FV.lenSub underlying46 Q1 rfl) ?_)
 refine AM (i:=20) (rk c0) (Bd (m' :=2097151) (sk c0) rfl (.yes rfl rfl) rfl (FV.eqlN (i:=C1.length) (j:=1) rfl rfl) ?_)
 refine AM (i:=21) (rk c0) (Bd (m' :=4194303) (sk c0) rfl (.yes rfl rfl) rfl (FV.eqlB (a:=(decide (d0.1 = q0))) (b:=(decide (C1.length = 1))) underlying4 rfl rfl) ?_)
 refine AM (i:=22) (rk c0) (Bd (m' :=8388607) (sk c0) rfl .plain rfl (FV.pick_t rfl rfl) ?_)
 refine AM (i:=23) (rk c0) (Bd (m' :=16777215) (sk c0) rfl .plain rfl (Ba rfl) ?_)
 refine AJ (dk c0)<|Ao rfl<|Bc hb0 func3 rfl rfl ?_
 cases h
 exact W0.gv
 refine Au<|AE<|Am<|Ae rfl<|Ab (Bp (i:=u0) (j:=1) rfl rfl (by omega))<|Ag rfl<|Aa<|B3 (u0 + 1) t0 g2 h
 refine Bf rfl ?_
 have h:=aH h k2
 try dsimp only at h
 refine Ac<|Ae rfl<|Ag rfl<|Aa<|Ao rfl<|Ap (u:=p0) E1 func13 rfl (.cons (.tmp rfl) .nil) rfl ?_
 obtain ⟨M6,I7,v4⟩:=St.rowV (α:=Ta) t0 .hd
 refine AM (i:=19) (rk c0) (Bd (m' :=1048575) (sk c0) rfl (.yes rfl rfl) rfl (FV.lenV underlying46 rfl v4) ?_)
 refine AM (i:=20) (rk c0) (Bd (m' :=2097151) (sk c0) rfl (.yes rfl rfl) rfl (FV.eqlN (i:=j0.length) (j:=1) rfl rfl) ?_)
 refine AM (i:=21) (rk c0) (Bd (m' :=4194303) (sk c0) rfl (.yes rfl rfl) rfl (FV.eqlB (a:=(decide (d0.1 = q0))) (b:=(decide (j0.length = 1))) underlying4 rfl rfl) ?_)
 refine AM (i:=22) (rk c0) (Bd (m' :=8388607) (sk c0) rfl .plain rfl (FV.pick_t rfl rfl) ?_)
 refine AM (i:=23) (rk c0) (Bd (m' :=16777215) (sk c0) rfl .plain rfl (Ba rfl) ?_)
 refine AJ (dk c0)<|Ao rfl<|Bc hb0 func3 rfl rfl ?_
 cases h
 exact t0.gv
 refine RO.enterPT (m' :=442367) (fst:=[]) (cap:=[]) (vs:=[p0]) (sk c0) rfl rfl (.yes rfl rfl) (bd 13) func13 rfl rfl rfl rfl (e1 rfl) rfl fun _ W7 E1 K9=>Ac<|Ag rfl<|Aa<|Aj<|Ac<|Ae rfl ?_
 have z9:j0.length <= 4294967296:=St.rowLe (α:=Ta) k0 .hd
 obtain ⟨J6,v7,j4⟩:=St.rowV (α:=Ta) k0 .hd
 refine Ab (FV.lenV underlying46 rfl j4)<|Ab (Bn (i:=j0.length) (j:=2) rfl rfl)<|Aa<|AW rfl h (fun s3 h=>?_) (fun s3 h=>?_)
 refine Ac<|Ae rfl<|Ag rfl<|Aa<|Ao rfl<|Ap (u:=p0) E1 func13 rfl (.cons (.tmp rfl) .nil) rfl<|RD.mo (α:=Unit) (fun ()=>[(180,.bool true),(183,.bool (decide (d0.1 = q0))),(187,.bool (decide (j0.length = 1)))]) (fun ()=>[]) k0 3 2097151 ?_ ?_
 rintro ⟨⟩ A6 Z1 U5
 try dsimp only
 refine AM (i:=21) (rk c0) (Bd (m' :=4194303) (sk c0) rfl (.yes rfl rfl) rfl (FV.eqlB (a:=(decide (d0.1 = q0))) (b:=(decide (j0.length = 1))) underlying4 rfl rfl) ?_)
 refine AM (i:=22) (rk c0) (Bd (m' :=8388607) (sk c0) rfl .plain rfl (FV.pick_t rfl rfl) ?_)
 refine AM (i:=23) (rk c0) (Bd (m' :=16777215) (sk c0) rfl .plain rfl (Ba rfl) ?_)
 refine AJ (dk c0)<|Ao rfl<|Bc hb0 func3 rfl rfl ?_
 cases h
 exact Z1.gv
 intro V0
 refine BB [14,19] (rk c0) ⟨?_,?_,trivial⟩
 refine Bd (m' :=458751) (sk c0) rfl (.yes rfl rfl) rfl (AC rfl (k0.memA .t2))<|RD.vP 16 524287 c0 rfl g0 (.yes rfl rfl) (fun _=>FV.eqlV (v:=.agg ((aa d0.1)).toArray) (u:=.agg ((aa q0)).toArray) rfl rfl (aG d0.1 q0)) rfl ?_
 obtain ⟨d3,z3,J1⟩:=St.rowV (α:=Ta) k0 .hd
 refine AM (i:=19) (rk c0) (Bd (m' :=1048575) (sk c0) rfl (.yes rfl rfl) rfl (FV.lenV underlying46 rfl J1) ?_)
 refine AM (i:=20) (rk c0) (Bd (m' :=2097151) (sk c0) rfl (.yes rfl rfl) rfl (FV.eqlN (i:=j0.length) (j:=1) rfl rfl) ?_)
 obtain ⟨X0,Y0⟩:=AF k0 .done
 exact V0 () X0 Y0
 obtain ⟨d3,z3,J1⟩:=St.rowV (α:=Ta) k0 .hd
 refine Bd (m' :=966655) (sk c0) rfl (.yes rfl rfl) rfl (FV.lenV underlying46 rfl J1)<|BB [14,20] (rk c0) ⟨?_,?_,trivial⟩
 refine Bd (m' :=983039) (sk c0) rfl (.yes rfl rfl) rfl (AC rfl (k0.memA .t2))<|RD.vP 16 1048575 c0 rfl g0 (.yes rfl rfl) (fun _=>FV.eqlV (v:=.agg ((aa d0.1)).toArray) (u:=.agg ((aa q0)).toArray) rfl rfl (aG d0.1 q0)) rfl<|AM (i:=20) (rk c0) (Bd (m' :=2097151) (sk c0) rfl (.yes rfl rfl) rfl (FV.eqlN (i:=j0.length) (j:=1) rfl rfl) ?_)
 obtain ⟨X0,Y0⟩:=AF k0 .done
 exact V0 () X0 Y0
 refine Bd (m' :=2015231) (sk c0) rfl (.yes rfl rfl) rfl (FV.eqlN (i:=j0.length) (j:=1) rfl rfl)<|RD.val (i:=14) (m' :=2031615) (W:=14745600) (tk c0) rfl g0 (.yes rfl rfl) (AC rfl (k0.memA .t2)) rfl<|RD.vP 16 2097151 c0 rfl g0 (.yes rfl rfl) (fun _=>FV.eqlV (v:=.agg ((aa d0.1)).toArray) (u:=.agg ((aa q0)).toArray) rfl rfl (aG d0.1 q0)) rfl ?_
 obtain ⟨Y1,c2⟩:=AF k0 .done
 exact V0 () Y1 c2
 refine Au<|Aj<|Ac<|Ag rfl<|Aa<|Ay<|tn h fun M00 H4 k2=>MX.lo (α:=Nat) (fun u0=>[(0,p0),(3,vI ((u0:Nat):Int))]) (fun u0=>[rr w 42 Ta p0 j0.length R0,.cells K0 (aa F0.1) 42,.cells J0 (aa d0.1) 42]) (fun u0=>u0) 1 H4 k0 ?_
 rintro P6 u0 b01 B3 t0 g2 h
 unfold aa_l2 at h
 try dsimp only at h
 refine Aj<|Ac<|Ae rfl<|Ae rfl ?_
 obtain ⟨K6,x7,k4⟩:=St.rowV (α:=Ta) t0 .hd
 refine Ab (FV.lenV underlying46 rfl k4)<|Ab (Bn (i:=u0) (j:=j0.length) rfl rfl)<|Aa<|AW rfl h (fun u3 h=>?_) (fun u3 h=>?_)
 refine Au<|Aj<|Ay<|Aj<|du 10 fun y0 A0=>Rv 0 y0 rfl A0 (fun _=>Ak rfl)<|Rv 1 y0 rfl A0 (fun _=>Ak rfl)<|bk h fun A2 b5 h=>?_
 have K1:=AN P2 g2
 obtain ⟨X2,y7,F1,p2,X7,R4,E4⟩:=St.nth (α:=Ta) t0 .hd K1 b5
 obtain ⟨g3,z7,p4⟩:=BC (α:=Ta) t0 .hd p2
 obtain rfl:X2 = ⟨g3,0,none⟩:=by rw [p4] at F1; cases F1; rfl
 obtain rfl:=bU R4
 refine Rv 2 y0 rfl A0 (fun _=>Bu 16 u0 rfl F1 rfl rfl p2)<|Rx 3 512 y0 rfl A0 (AC rfl E4)<|Rv 4 y0 rfl A0 (fun _=>Ak rfl)<|Rv 5 y0 rfl A0 (fun _=>Ak rfl)<|Rv 6 y0 rfl A0 (fun _=>FV.subI (i:=((u0:Nat):Int)) (j:=1) rfl rfl (by omega))<|bk h fun B2 c5 h=>?_
 obtain ⟨y4,d5⟩:=aJ c5
 obtain ⟨Y2,A7,G1,q2,Y7,U4,F4⟩:=St.nth (α:=Ta) t0 .hd K1 d5
 obtain ⟨j3,B7,q4⟩:=BC (α:=Ta) t0 .hd q2
 obtain rfl:Y2 = ⟨j3,0,none⟩:=by rw [q4] at G1; cases G1; rfl
 obtain rfl:=bU U4
 refine Rv 7 y0 rfl A0 (fun _=>FV.idxAddr (m:=16) (i:=(((u0:Nat):Int) - 1).toNat) rfl rfl G1 rfl y4 q2)<|Rx 8 512 y0 rfl A0 (AC rfl F4)<|Rv 9 y0 rfl A0 (fun _=>FV.eqlV (v:=.agg ((aa A2)).toArray) (u:=.agg ((aa B2)).toArray) rfl rfl (aG A2 B2))<|AJ (dk y0)<|AW rfl h (fun v3 h=>?_) (fun v3 h=>?_)
 refine Ac<|Ae rfl<|Ae rfl<|bk h fun B5 s5 h=>RG.valE .plain rfl (FV.cutRow (α:=Ta) s5 t0 .hd rfl rfl ⟨_,rfl⟩ rfl) fun x2 Z0=>?_
 have A9:=Z0.le
 refine Ag rfl<|Aa<|Aj<|Ac<|Ag rfl<|Aa<|Ay ?_
 obtain ⟨P00,I4,x4⟩:=ax h
 refine MX.lf (α:=Int × Nat × (List Ta) × (List Value)) (fun ⟨C0,s0,D0,G0⟩=>[(0,p0),(3,vI C0),(4,x2),(5,vI ((s0:Nat):Int))]) (fun ⟨C0,s0,D0,G0⟩=>[rr w 42 Ta p0 D0.length G0,.cells K0 (aa F0.1) 42,.cells J0 (aa d0.1) 42]) (fun ⟨C0,s0,D0,G0⟩ y2=>Cells y2 (bl [rr w 42 Ta p0 D0.length G0,.cells K0 (aa F0.1) 42,.cells J0 (aa d0.1) 42] ++ L) G0 D0) (fun ⟨C0,s0,D0,G0⟩=>(C0,s0,D0)) (((u0:Nat):Int),1,j0,R0) I4 t0 K1 ?_
 rintro Q6 ⟨C0,s0,D0,G0⟩ y2 C3 v0 V3 Q0 h
 unfold aa_l1 at h
 try dsimp only at h
 refine Aj<|Ac<|Ae rfl<|Ae rfl<|Ab (FV.lenSub underlying46 Z0 rfl)<|Ab (Bn (i:=s0) (j:=B5.length) rfl rfl)<|Aa<|AW rfl h (fun x3 h=>?_) (fun x3 h=>?_)
 refine Au<|Aj<|Ay<|Aj<|du 10 fun z0 B0=>Rv 0 z0 rfl B0 (fun _=>Ak rfl)<|Rv 1 z0 rfl B0 (fun _=>Ak rfl)<|bk h fun p1 g5 h=>?_
 obtain ⟨Z2,C7,k1,B4,Z7,V4,u2⟩:=St.nth (α:=Ta) v0 .hd Q0 g5
 obtain ⟨k3,D7,s4⟩:=BC (α:=Ta) v0 .hd B4
 obtain rfl:Z2 = ⟨k3,0,none⟩:=by rw [s4] at k1; cases k1; rfl
 obtain rfl:=bU V4
 refine Rv 2 z0 rfl B0 (fun _=>FV.idxSub (i:=s0) rfl Z0 k1 rfl rfl rfl (by omega))<|Rx 3 512 z0 rfl B0 (AC rfl u2)<|Rv 4 z0 rfl B0 (fun _=>Ak rfl)<|Rv 5 z0 rfl B0 (fun _=>Ak rfl)<|Rv 6 z0 rfl B0 (fun _=>FV.subI (i:=((s0:Nat):Int)) (j:=1) rfl rfl (by omega))<|bk h fun C2 j5 h=>?_
 obtain ⟨z4,k5⟩:=aJ j5
 obtain ⟨b3,E7,H1,C4,b8,W4,G4⟩:=St.nth (α:=Ta) v0 .hd Q0 (List.getElem?_drop.symm.trans k5)
 obtain ⟨p3,F7,u4⟩:=BC (α:=Ta) v0 .hd C4
 obtain rfl:b3 = ⟨p3,0,none⟩:=by rw [u4] at H1; cases H1; rfl
 obtain rfl:=bU W4
 refine Rv 7 z0 rfl B0 (fun _=>FV.idxSub (i:=(((s0:Nat):Int) - 1).toNat) rfl Z0 H1 rfl rfl z4 (by omega))<|Rx 8 512 z0 rfl B0 (AC rfl G4)<|Rv 9 z0 rfl B0 (fun _=>FV.neqV (xs:=((aa p1)).toArray) (ys:=((aa C2)).toArray) rfl rfl (by kernel_rfl) (aG p1 C2))<|AJ (dk z0)<|MX.jf (α:=Int × (List Ta) × (List Value)) (fun ⟨P0,E0,H0⟩=>[(0,p0),(3,vI P0),(4,x2),(5,vI ((s0:Nat):Int))]) (fun ⟨P0,E0,H0⟩=>[rr w 42 Ta p0 E0.length H0,.cells K0 (aa F0.1) 42,.cells J0 (aa d0.1) 42]) (fun ⟨P0,E0,H0⟩ z2=>Cells z2 (bl [rr w 42 Ta p0 E0.length H0,.cells K0 (aa F0.1) 42,.cells J0 (aa d0.1) 42] ++ L) H0 E0) (fun ⟨P0,E0,H0⟩=>(P0,E0)) v0 h ?_ ?_
 rintro ⟨P0,E0,H0⟩ z2 G3 W3 b4 h
 try dsimp only at h
 refine AE<|Am<|Ae rfl<|Ab (Bp (i:=s0) (j:=1) rfl rfl (by omega))<|Ag rfl<|Aa<|C3 (P0,s0 + 1,E0,H0) G3 (Tt V3 W3) b4 h
 intro R6 U1 h
 try dsimp only at h
 refine MX.ifn rfl h (fun y3 h=>?_) (fun y3 h=>?_)
 refine Au<|U1 (C0,D0,G0) v0 (Tr.refl _ _) Q0 h
 refine Ac<|Ae rfl<|Ae rfl<|Ae rfl<|Ae rfl<|Ab (FV.idxSub (i:=s0) rfl Z0 k1 rfl rfl rfl (by omega))<|Ab (AC rfl u2)<|bk h fun g01 p5 h=>?_
 obtain ⟨A4,q5⟩:=aJ p5
 obtain ⟨c3,G7,I1,s2,c8,X4,H9⟩:=St.nth (α:=Ta) v0 .hd Q0 q5
 obtain ⟨q3,H7,j2⟩:=BC (α:=Ta) v0 .hd s2
 obtain rfl:c3 = ⟨q3,0,none⟩:=by rw [j2] at I1; cases I1; rfl
 obtain rfl:=bU X4
 refine Ab (Bu 16 (C0.toNat) rfl I1 rfl A4 s2)<|bk h fun C5 u5 h=>RG.acts' .plain (Acts.set (α:=Ta) (i:=C0.toNat) u5 v0 j2 (fun _=>.hd) Q0 rfl rfl rfl rfl (aU p1.fN p1.fD) rfl) fun Y00 ⟨A3,H3,X3,c4⟩=>Aa<|Am<|Ae rfl<|bk h fun y5 Y4 h=>Ab (BH (i:=C0) (j:=1) rfl rfl Y4)<|Ag rfl<|Aa<|U1 (y5,C5,A3) H3 X3 c4 h
 refine Bf rfl ?_
 have h:=x4 _ h
 try dsimp only at h
 refine Ac<|Ae rfl<|Ae rfl<|bk h fun q01 v5 h=>RG.valE .plain rfl (FV.cutRow (α:=Ta) v5 v0 .hd rfl rfl ⟨_,rfl⟩ rfl) fun X00 v2=>?_
 have B9:=v2.le
 refine RG.doesN .plain (DoesL.clear (α:=Ta) (x0:=(⟨(0,0,0,0,0,0,0,0),(0,0,0,0,0,0,0,0)⟩:Ta)) v0 v2 (fun _=>.hd) cN rfl Q0 (fun _ _=>(aU (0,0,0,0,0,0,0,0) (0,0,0,0,0,0,0,0)))) fun U00 Z00 ⟨Z4,d8,W0,H8,X8⟩=>?_
 subst Z4
 refine Aa<|Ac<|Ae rfl<|Ae rfl<|bk h fun C1 x5 h=>RG.valE .plain rfl (FV.cutRow (α:=Ta) x5 W0 .hd rfl rfl rfl ⟨_,rfl⟩) fun z5 Q1=>?_
 have C9:=Q1.le
 refine Ag rfl<|Aa ?_
 have h:=ap h k2
 refine Ao rfl<|Ap (u:=z5) E1 func13 rfl (.cons (.tmp rfl) .nil) rfl<|RD.mo (α:=Unit) (fun ()=>[(180,.bool true),(183,.bool (decide (d0.1 = q0))),(187,.bool (decide (C1.length = 1)))]) (fun ()=>[]) W0 3 2097151 ?_ ?_
 rintro ⟨⟩ A6 Z1 U5
 try dsimp only
 refine AM (i:=21) (rk c0) (Bd (m' :=4194303) (sk c0) rfl (.yes rfl rfl) rfl (FV.eqlB (a:=(decide (d0.1 = q0))) (b:=(decide (C1.length = 1))) underlying4 rfl rfl) ?_)
 refine AM (i:=22) (rk c0) (Bd (m' :=8388607) (sk c0) rfl .plain rfl (FV.pick_t rfl rfl) ?_)
 refine AM (i:=23) (rk c0) (Bd (m' :=16777215) (sk c0) rfl .plain rfl (Ba rfl) ?_)
 refine AJ (dk c0)<|Ao rfl<|Bc hb0 func3 rfl rfl ?_
 cases h
 exact Z1.gv
 intro V0
 refine BB [14,19] (rk c0) ⟨?_,?_,trivial⟩
 refine Bd (m' :=458751) (sk c0) rfl (.yes rfl rfl) rfl (AC rfl (W0.memA .t2))<|RD.vP 16 524287 c0 rfl g0 (.yes rfl rfl) (fun _=>FV.eqlV (v:=.agg ((aa d0.1)).toArray) (u:=.agg ((aa q0)).toArray) rfl rfl (aG d0.1 q0)) rfl<|AM (i:=19) (rk c0) (Bd (m' :=1048575) (sk c0) rfl (.yes rfl rfl) rfl (FV.lenSub underlying46 Q1 rfl) ?_)
 refine AM (i:=20) (rk c0) (Bd (m' :=2097151) (sk c0) rfl (.yes rfl rfl) rfl (FV.eqlN (i:=C1.length) (j:=1) rfl rfl) ?_)
 obtain ⟨X0,Y0⟩:=AF W0 .done
 exact V0 () X0 Y0
 refine Bd (m' :=966655) (sk c0) rfl (.yes rfl rfl) rfl (FV.lenSub underlying46 Q1 rfl)<|BB [14,20] (rk c0) ⟨?_,?_,trivial⟩
 refine Bd (m' :=983039) (sk c0) rfl (.yes rfl rfl) rfl (AC rfl (W0.memA .t2))<|RD.vP 16 1048575 c0 rfl g0 (.yes rfl rfl) (fun _=>FV.eqlV (v:=.agg ((aa d0.1)).toArray) (u:=.agg ((aa q0)).toArray) rfl rfl (aG d0.1 q0)) rfl<|AM (i:=20) (rk c0) (Bd (m' :=2097151) (sk c0) rfl (.yes rfl rfl) rfl (FV.eqlN (i:=C1.length) (j:=1) rfl rfl) ?_)
 obtain ⟨X0,Y0⟩:=AF W0 .done
 exact V0 () X0 Y0
 refine Bd (m' :=2015231) (sk c0) rfl (.yes rfl rfl) rfl (FV.eqlN (i:=C1.length) (j:=1) rfl rfl)<|RD.val (i:=14) (m' :=2031615) (W:=14745600) (tk c0) rfl g0 (.yes rfl rfl) (AC rfl (W0.memA .t2)) rfl<|RD.vP 16 2097151 c0 rfl g0 (.yes rfl rfl) (fun _=>FV.eqlV (v:=.agg ((aa d0.1)).toArray) (u:=.agg ((aa q0)).toArray) rfl rfl (aG d0.1 q0)) rfl ?_
 obtain ⟨Y1,c2⟩:=AF W0 .done
 exact V0 () Y1 c2
 refine Au<|AE<|Am<|Ae rfl<|Ab (Bp (i:=u0) (j:=1) rfl rfl (by omega))<|Ag rfl<|Aa<|B3 (u0 + 1) t0 g2 h
 refine Bf rfl ?_
 have h:=aH h k2
 try dsimp only at h
 refine Ac<|Ae rfl<|Ag rfl<|Aa<|Ao rfl<|Ap (u:=p0) E1 func13 rfl (.cons (.tmp rfl) .nil) rfl<|RD.mo (α:=Unit) (fun ()=>[(180,.bool true),(183,.bool (decide (d0.1 = q0))),(187,.bool (decide (j0.length = 1)))]) (fun ()=>[]) t0 3 2097151 ?_ ?_
 rintro ⟨⟩ A6 Z1 U5
 try dsimp only
 refine AM (i:=21) (rk c0) (Bd (m' :=4194303) (sk c0) rfl (.yes rfl rfl) rfl (FV.eqlB (a:=(decide (d0.1 = q0))) (b:=(decide (j0.length = 1))) underlying4 rfl rfl) ?_)
 refine AM (i:=22) (rk c0) (Bd (m' :=8388607) (sk c0) rfl .plain rfl (FV.pick_t rfl rfl) ?_)
 refine AM (i:=23) (rk c0) (Bd (m' :=16777215) (sk c0) rfl .plain rfl (Ba rfl) ?_)
 refine AJ (dk c0)<|Ao rfl<|Bc hb0 func3 rfl rfl ?_
 cases h
 exact Z1.gv
 intro V0
 refine BB [14,19] (rk c0) ⟨?_,?_,trivial⟩
 refine Bd (m' :=458751) (sk c0) rfl (.yes rfl rfl) rfl (AC rfl (t0.memA .t2))<|RD.vP 16 524287 c0 rfl g0 (.yes rfl rfl) (fun _=>FV.eqlV (v:=.agg ((aa d0.1)).toArray) (u:=.agg ((aa q0)).toArray) rfl rfl (aG d0.1 q0)) rfl ?_
 obtain ⟨d3,z3,J1⟩:=St.rowV (α:=Ta) t0 .hd
 refine AM (i:=19) (rk c0) (Bd (m' :=1048575) (sk c0) rfl (.yes rfl rfl) rfl (FV.lenV underlying46 rfl J1) ?_)
 refine AM (i:=20) (rk c0) (Bd (m' :=2097151) (sk c0) rfl (.yes rfl rfl) rfl (FV.eqlN (i:=j0.length) (j:=1) rfl rfl) ?_)
 obtain ⟨X0,Y0⟩:=AF t0 .done
 exact V0 () X0 Y0
 obtain ⟨d3,z3,J1⟩:=St.rowV (α:=Ta) t0 .hd
 refine Bd (m' :=966655) (sk c0) rfl (.yes rfl rfl) rfl (FV.lenV underlying46 rfl J1)<|BB [14,20] (rk c0) ⟨?_,?_,trivial⟩
 refine Bd (m' :=983039) (sk c0) rfl (.yes rfl rfl) rfl (AC rfl (t0.memA .t2))<|RD.vP 16 1048575 c0 rfl g0 (.yes rfl rfl) (fun _=>FV.eqlV (v:=.agg ((aa d0.1)).toArray) (u:=.agg ((aa q0)).toArray) rfl rfl (aG d0.1 q0)) rfl<|AM (i:=20) (rk c0) (Bd (m' :=2097151) (sk c0) rfl (.yes rfl rfl) rfl (FV.eqlN (i:=j0.length) (j:=1) rfl rfl) ?_)
 obtain ⟨X0,Y0⟩:=AF t0 .done
 exact V0 () X0 Y0
 refine Bd (m' :=2015231) (sk c0) rfl (.yes rfl rfl) rfl (FV.eqlN (i:=j0.length) (j:=1) rfl rfl)<|RD.val (i:=14) (m' :=2031615) (W:=14745600) (tk c0) rfl g0 (.yes rfl rfl) (AC rfl (t0.memA .t2)) rfl<|RD.vP 16 2097151 c0 rfl g0 (.yes rfl rfl) (fun _=>FV.eqlV (v:=.agg ((aa d0.1)).toArray) (u:=.agg ((aa q0)).toArray) rfl rfl (aG d0.1 q0)) rfl ?_
 obtain ⟨Y1,c2⟩:=AF t0 .done
 exact V0 () Y1 c2
 refine Bz 262143 6 [(14,181),(15,182),(16,183),(17,184)] (F:=[(180,false)]) (U:=[]) c0 g0 (.cons rfl .nil) .nil ?_
 dsimp only [aQ,List.map]
 refine AM (i:=18) (rk c0) (RO.off (m' :=524287) (sk c0) rfl (.no rfl rfl) rfl ?_)
 refine AM (i:=19) (rk c0) (RO.off (m' :=1048575) (sk c0) rfl (.no rfl rfl) rfl ?_)
 refine AM (i:=20) (rk c0) (RO.off (m' :=2097151) (sk c0) rfl (.no rfl rfl) rfl ?_)
 refine AM (i:=21) (rk c0) (RO.off (m' :=4194303) (sk c0) rfl (.no rfl rfl) rfl ?_)
 refine AM (i:=22) (rk c0) (Bd (m' :=8388607) (sk c0) rfl .plain rfl (Bm rfl rfl) ?_)
 refine AM (i:=23) (rk c0) (Bd (m' :=16777215) (sk c0) rfl .plain rfl (Ba rfl) ?_)
 refine AJ (dk c0)<|Ao rfl<|Bc hb0 func3 rfl rfl ?_
 cases h
 exact k0.gv
 refine Bz 4095 12 [(9,176),(10,177),(11,178)] (F:=[(175,false)]) (U:=[]) c0 g0 (.cons rfl .nil) .nil ?_
 dsimp only [aQ,List.map]
 refine Rv 12 c0 rfl g0 (fun _=>Bm rfl rfl)<|Rv 13 c0 rfl g0 (fun _=>Ak rfl)<|Bz 262143 6 [(14,181),(15,182),(16,183),(17,184)] (F:=[(180,false)]) (U:=[]) c0 g0 (.cons rfl .nil) .nil ?_
 dsimp only [aQ,List.map]
 refine AM (i:=18) (rk c0) (RO.off (m' :=524287) (sk c0) rfl (.no rfl rfl) rfl ?_)
 refine AM (i:=19) (rk c0) (RO.off (m' :=1048575) (sk c0) rfl (.no rfl rfl) rfl ?_)
 refine AM (i:=20) (rk c0) (RO.off (m' :=2097151) (sk c0) rfl (.no rfl rfl) rfl ?_)
 refine AM (i:=21) (rk c0) (RO.off (m' :=4194303) (sk c0) rfl (.no rfl rfl) rfl ?_)
 refine AM (i:=22) (rk c0) (Bd (m' :=8388607) (sk c0) rfl .plain rfl (Bm rfl rfl) ?_)
 refine AM (i:=23) (rk c0) (Bd (m' :=16777215) (sk c0) rfl .plain rfl (Ba rfl) ?_)
 refine AJ (dk c0)<|Ao rfl<|Bc hb0 func3 rfl rfl ?_
 cases h
 exact k0.gv
 refine Bz 127 17 [(4,171),(5,172),(6,173)] (F:=[(170,false)]) (U:=[]) c0 g0 (.cons rfl .nil) .nil ?_
 dsimp only [aQ,List.map]
 refine Rv 7 c0 rfl g0 (fun _=>Bm rfl rfl)<|Rv 8 c0 rfl g0 (fun _=>Ak rfl)<|Bz 4095 12 [(9,176),(10,177),(11,178)] (F:=[(175,false)]) (U:=[]) c0 g0 (.cons rfl .nil) .nil ?_
 dsimp only [aQ,List.map]
 refine Rv 12 c0 rfl g0 (fun _=>Bm rfl rfl)<|Rv 13 c0 rfl g0 (fun _=>Ak rfl)<|Bz 262143 6 [(14,181),(15,182),(16,183),(17,184)] (F:=[(180,false)]) (U:=[]) c0 g0 (.cons rfl .nil) .nil ?_
 dsimp only [aQ,List.map]
 refine AM (i:=18) (rk c0) (RO.off (m' :=524287) (sk c0) rfl (.no rfl rfl) rfl ?_)
 refine AM (i:=19) (rk c0) (RO.off (m' :=1048575) (sk c0) rfl (.no rfl rfl) rfl ?_)
 refine AM (i:=20) (rk c0) (RO.off (m' :=2097151) (sk c0) rfl (.no rfl rfl) rfl ?_)
 refine AM (i:=21) (rk c0) (RO.off (m' :=4194303) (sk c0) rfl (.no rfl rfl) rfl ?_)
 refine AM (i:=22) (rk c0) (Bd (m' :=8388607) (sk c0) rfl .plain rfl (Bm rfl rfl) ?_)
 refine AM (i:=23) (rk c0) (Bd (m' :=16777215) (sk c0) rfl .plain rfl (Ba rfl) ?_)
 refine AJ (dk c0)<|Ao rfl<|Bc hb0 func3 rfl rfl ?_
 cases h
 exact k0.gv
 refine Ac<|Ag rfl<|Aa<|Ao rfl<|Bc hb0 func3 rfl rfl ?_
 cases h
 exact M1.gv
 refine AL<|AL<|AL<|AL<|RG.pt rfl rfl<|Aa<|Be rfl<|Ac<|Ag rfl<|Aa<|Ao rfl<|Bc hb0 func3 rfl rfl ?_
 cases h
 exact M1.gv
 refine AL<|AL<|AL<|AL<|RG.pt rfl rfl<|Ae rfl<|AL<|AL<|AL<|AL<|RG.pt rfl rfl<|Aa<|Be rfl<|Ac<|Ag rfl<|Aa<|Ao rfl<|Bc hb0 func3 rfl rfl ?_
 cases h
 exact M1.gv
 refine AL<|AL<|RG.pt rfl rfl<|Ae rfl<|AL<|AL<|AL<|AL<|RG.pt rfl rfl<|Ae rfl<|AL<|AL<|AL<|AL<|RG.pt rfl rfl<|Aa<|Be rfl<|Ac<|Ag rfl<|Aa<|Ao rfl<|Bc hb0 func3 rfl rfl ?_
 cases h
 exact M1.gv
 refine Ac<|Ae rfl<|Ab (FV.eql (i:=d0.2) (j:=7) rfl rfl)<|Ag rfl<|Aa<|Ao rfl<|Bc hb0 func3 rfl rfl ?_
 cases h
 exact j1.gv
 refine Ac<|Ag rfl<|Aa<|Ao rfl<|Bc hb0 func3 rfl rfl ?_
 cases h
 exact j1.gv
 refine AL<|AL<|AL<|RG.pt rfl rfl<|Aa<|Be rfl<|Ac<|Ag rfl<|Aa<|Ao rfl<|Bc hb0 func3 rfl rfl ?_
 cases h
 exact j1.gv
 refine AL<|AL<|AL<|RG.pt rfl rfl<|Ae rfl<|AL<|AL<|AL<|RG.pt rfl rfl<|Aa<|Be rfl<|Ac<|Ag rfl<|Aa<|Ao rfl<|Bc hb0 func3 rfl rfl ?_
 cases h
 exact j1.gv
 refine Ac<|Ag rfl<|Aa<|Ao rfl<|Bc hb0 func3 rfl rfl ?_
 cases h
 exact z1.gv
end Go.Proofs.YtkhpmhhnolpcnaaGreatDoor
