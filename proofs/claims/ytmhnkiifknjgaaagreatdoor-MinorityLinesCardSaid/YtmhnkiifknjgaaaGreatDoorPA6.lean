import Derived.Test.YtmhnkiifknjgaaaGreatDoorPA3
namespace Go.Proofs.YtmhnkiifknjgaaaGreatDoor
open Go Go.RowKit Tryz
set_option maxRecDepth 4000
set_option maxHeartbeats 4000000

structure Tsums where
  fw:Int
  fx:Int
  fy:Ta
  fa:Ta
  fb:Ta
  fc:Ta
  deriving DecidableEq
instance:Rep Tsums:=Rep.via (β:=Int × Int × Ta × Ta × Ta × Ta) fun x=>(x.fw,x.fx,x.fy,x.fa,x.fb,x.fc)
structure Tline where
  fG:Tsums
  fd:Ta
  fn:Ta
  deriving DecidableEq
instance:Rep Tline:=Rep.via (β:=Tsums × Ta × Ta) fun x=>(x.fG,x.fd,x.fn)
structure T122 where
  fw:Int
  fg:Int
  fy:Ta
  deriving DecidableEq
instance:Rep T122:=Rep.via (β:=Int × Int × Ta) fun x=>(x.fw,x.fg,x.fy)
theorem ex_Ta {a b:Ta} (h0:a.fN.1 = b.fN.1) (h1:a.fN.2.1 = b.fN.2.1) (h2:a.fN.2.2.1 = b.fN.2.2.1) (h3:a.fN.2.2.2.1 = b.fN.2.2.2.1) (h4:a.fN.2.2.2.2.1 = b.fN.2.2.2.2.1) (h5:a.fN.2.2.2.2.2.1 = b.fN.2.2.2.2.2.1) (h6:a.fN.2.2.2.2.2.2.1 = b.fN.2.2.2.2.2.2.1) (h7:a.fN.2.2.2.2.2.2.2 = b.fN.2.2.2.2.2.2.2) (h8:a.fD.1 = b.fD.1) (h9:a.fD.2.1 = b.fD.2.1) (b0:a.fD.2.2.1 = b.fD.2.2.1) (c0:a.fD.2.2.2.1 = b.fD.2.2.2.1) (d0:a.fD.2.2.2.2.1 = b.fD.2.2.2.2.1) (g0:a.fD.2.2.2.2.2.1 = b.fD.2.2.2.2.2.1) (j0:a.fD.2.2.2.2.2.2.1 = b.fD.2.2.2.2.2.2.1) (k0:a.fD.2.2.2.2.2.2.2 = b.fD.2.2.2.2.2.2.2):a = b:=congr (congrArg Ta.mk (kz (a:=a.fN) (b:=b.fN) h0 h1 h2 h3 h4 h5 h6 h7)) (kz (a:=a.fD) (b:=b.fD) h8 h9 b0 c0 d0 g0 j0 k0)
theorem bG (a b:Ta) (p:World):(do eqGuard .eql 46 (.tmp 0) (.tmp 0) (.agg #[vU a.fN.1,vU a.fN.2.1,vU a.fN.2.2.1,vU a.fN.2.2.2.1,vU a.fN.2.2.2.2.1,vU a.fN.2.2.2.2.2.1,vU a.fN.2.2.2.2.2.2.1,vU a.fN.2.2.2.2.2.2.2,vU a.fD.1,vU a.fD.2.1,vU a.fD.2.2.1,vU a.fD.2.2.2.1,vU a.fD.2.2.2.2.1,vU a.fD.2.2.2.2.2.1,vU a.fD.2.2.2.2.2.2.1,vU a.fD.2.2.2.2.2.2.2]) (.agg #[vU b.fN.1,vU b.fN.2.1,vU b.fN.2.2.1,vU b.fN.2.2.2.1,vU b.fN.2.2.2.2.1,vU b.fN.2.2.2.2.2.1,vU b.fN.2.2.2.2.2.2.1,vU b.fN.2.2.2.2.2.2.2,vU b.fD.1,vU b.fD.2.1,vU b.fD.2.2.1,vU b.fD.2.2.2.1,vU b.fD.2.2.2.2.1,vU b.fD.2.2.2.2.2.1,vU b.fD.2.2.2.2.2.2.1,vU b.fD.2.2.2.2.2.2.2]); binOp .eql 46 (.agg #[vU a.fN.1,vU a.fN.2.1,vU a.fN.2.2.1,vU a.fN.2.2.2.1,vU a.fN.2.2.2.2.1,vU a.fN.2.2.2.2.2.1,vU a.fN.2.2.2.2.2.2.1,vU a.fN.2.2.2.2.2.2.2,vU a.fD.1,vU a.fD.2.1,vU a.fD.2.2.1,vU a.fD.2.2.2.1,vU a.fD.2.2.2.2.1,vU a.fD.2.2.2.2.2.1,vU a.fD.2.2.2.2.2.2.1,vU a.fD.2.2.2.2.2.2.2]) (.agg #[vU b.fN.1,vU b.fN.2.1,vU b.fN.2.2.1,vU b.fN.2.2.2.1,vU b.fN.2.2.2.2.1,vU b.fN.2.2.2.2.2.1,vU b.fN.2.2.2.2.2.2.1,vU b.fN.2.2.2.2.2.2.2,vU b.fD.1,vU b.fD.2.1,vU b.fD.2.2.1,vU b.fD.2.2.2.1,vU b.fD.2.2.2.2.1,vU b.fD.2.2.2.2.2.1,vU b.fD.2.2.2.2.2.2.1,vU b.fD.2.2.2.2.2.2.2]):Sem Vc).run Tryz.prog p = .ok (.bool (decide (a = b))) p:=
  eqAgg (ks:=[.int .u64,.int .u64,.int .u64,.int .u64,.int .u64,.int .u64,.int .u64,.int .u64,.int .u64,.int .u64,.int .u64,.int .u64,.int .u64,.int .u64,.int .u64,.int .u64]) (xs:=[vU a.fN.1,vU a.fN.2.1,vU a.fN.2.2.1,vU a.fN.2.2.2.1,vU a.fN.2.2.2.2.1,vU a.fN.2.2.2.2.2.1,vU a.fN.2.2.2.2.2.2.1,vU a.fN.2.2.2.2.2.2.2,vU a.fD.1,vU a.fD.2.1,vU a.fD.2.2.1,vU a.fD.2.2.2.1,vU a.fD.2.2.2.2.1,vU a.fD.2.2.2.2.2.1,vU a.fD.2.2.2.2.2.2.1,vU a.fD.2.2.2.2.2.2.2]) (ys:=[vU b.fN.1,vU b.fN.2.1,vU b.fN.2.2.1,vU b.fN.2.2.2.1,vU b.fN.2.2.2.2.1,vU b.fN.2.2.2.2.2.1,vU b.fN.2.2.2.2.2.2.1,vU b.fN.2.2.2.2.2.2.2,vU b.fD.1,vU b.fD.2.1,vU b.fD.2.2.1,vU b.fD.2.2.2.1,vU b.fD.2.2.2.2.1,vU b.fD.2.2.2.2.2.1,vU b.fD.2.2.2.2.2.2.1,vU b.fD.2.2.2.2.2.2.2]) (by kernel_rfl) (by kernel_rfl) (by kernel_rfl) I I ⟨fun h=>by
    simp only [bN,veq,Bool.and_eq_true,beq_iff_eq,and_true] at h
    obtain ⟨h0,h1,h2,h3,h4,h5,h6,h7,h8,h9,b0,c0,d0,g0,j0,k0⟩:=h
    exact ex_Ta (aB h0) (aB h1) (aB h2) (aB h3) (aB h4) (aB h5) (aB h6) (aB h7) (aB h8) (aB h9) (aB b0) (aB c0) (aB d0) (aB g0) (aB j0) (aB k0),fun h=>by subst h; simp [bN,veq]⟩ _ _ p
def av_l1 (_n:Nat) (c0:Tb) (g0:Int × Nat -> Oa Int):Int × Nat -> Oa Int
  | (d0,b0)=>(if b0 < c0.fH.length then (c0.fH[b0]?).bind fun k0=>(chk (d0 + k0)).bind fun j0=>g0 (j0,b0 + 1) else some d0)
def av_l2 (n:Nat) (a0:Te) (a1:Int) (a2:Int) (s0:Nat × Int × Int × Ta × Ta × Ta × Ta -> Oa ((Except Tc Tline) ⊕ (Int × Int × Ta × Ta × Ta × Ta))):Nat × Int × Int × Ta × Ta × Ta × Ta -> Oa ((Except Tc Tline) ⊕ (Int × Int × Ta × Ta × Ta × Ta))
  | (c0,p0,q0,d0,g0,j0,k0)=>(if c0 < a0.fv.length then (a0.fv[c0]?).bind fun b0=>Option.bind (au (av_l1 n b0) n (0,0)) (fun x0=>(if b0.fp = true then s0 (c0 + 1,p0,q0,d0,g0,j0,k0) else (if b0.ft = 0 then s0 (c0 + 1,p0,q0,d0,g0,j0,k0) else (if x0 = 0 then s0 (c0 + 1,p0,q0,d0,g0,j0,k0) else (idx b0.fl a1).bind fun t0=>(idx b0.fH a2).bind fun Q0=>(ah_p n Q0 x0).bind fun R0=>exc R0 (fun u0=>(chk (p0 + b0.ft)).bind fun M0=>(chk (q0 + t0)).bind fun P0=>(ah_p n b0.ft (1:Int)).bind fun U0=>exc U0 (fun V0=>(ao_p n V0 u0).bind fun W0=>exc W0 (fun v0=>(bm_p n d0 v0).bind fun X0=>exc X0 (fun Y0=>(ah_p n t0 (1:Int)).bind fun Z0=>exc Z0 (fun b1=>(ah_p n t0 b0.ft).bind fun c1=>exc c1 (fun d1=>(ao_p n b1 d1).bind fun g1=>exc g1 (fun j1=>(bm_p n g0 j1).bind fun k1=>exc k1 (fun p1=>(ah_p n t0 (1:Int)).bind fun q1=>exc q1 (fun s1=>(ao_p n s1 u0).bind fun t1=>exc t1 (fun u1=>(bm_p n j0 u1).bind fun v1=>exc v1 (fun x1=>(ao_p n v0 u0).bind fun y1=>exc y1 (fun z1=>(bm_p n k0 z1).bind fun A1=>exc A1 (fun B1=>s0 (c0 + 1,M0,P0,Y0,p1,x1,B1)) (fun K0=>some (.inl (.error K0)))) (fun J0=>some (.inl (.error J0)))) (fun I0=>some (.inl (.error I0)))) (fun H0=>some (.inl (.error H0)))) (fun G0=>some (.inl (.error G0)))) (fun F0=>some (.inl (.error F0)))) (fun E0=>some (.inl (.error E0)))) (fun D0=>some (.inl (.error D0)))) (fun C0=>some (.inl (.error C0)))) (fun B0=>some (.inl (.error B0)))) (fun A0=>some (.inl (.error A0)))) (fun z0=>some (.inl (.error z0)))) (fun y0=>some (.inl (.error y0))))))) else some (.inr (p0,q0,g0,j0,d0,k0)))
def av_p (n:Nat) (a0:Te) (a1:Int) (a2:Int):Oa (Except Tc Tline):=
  (bA_p n a0).bind fun k0=>(if k0 = 0 then (if a1 < 0 then some (.error (⟨(2:Int)⟩:Tc)) else (if a0.fl <= a1 then some (.error (⟨(2:Int)⟩:Tc)) else (if a2 < 0 then some (.error (⟨(2:Int)⟩:Tc)) else (if a0.fj <= a2 then some (.error (⟨(2:Int)⟩:Tc)) else (ah_p n (0:Int) (1:Int)).bind fun F0=>exc F0 (fun b0=>thn (au (av_l2 n a0 a1 a2) n (0,0,0,b0,b0,b0,b0)) (fun (s0,t0,g0,j0,d0,A0)=>(ah_p n s0 (1:Int)).bind fun G0=>exc G0 (fun q0=>(ah_p n t0 (1:Int)).bind fun B0=>exc B0 (fun c0=>(bQ_p n q0 g0 c0 c0).bind fun C0=>exc C0 (fun p0=>(if p0 = b0 then some (.error (⟨(7:Int)⟩:Tc)) else (bQ_p n q0 j0 c0 d0).bind fun D0=>exc D0 (fun E0=>some (.ok (⟨(⟨s0,t0,d0,g0,j0,A0⟩:Tsums),p0,E0⟩:Tline))) (fun x0=>some (.error x0)))) (fun v0=>some (.error v0))) (fun u0=>some (.error u0))) (fun z0=>some (.error z0)))) (fun y0=>some (.error y0)))))) else some (.error (⟨k0⟩:Tc)))
theorem av_c (n:Nat) {L w} (hL:hl L w) (a0:Te) {v0_3:Vc} (h0_3:Rep.R w L [v0_3] a0.fv) {a1:Int} {a2:Int}  {r:Except Tc Tline} (h:av_p n a0 a1 a2 = some r) :
 Cl 25 #[.agg #[vI a0.fl,vI a0.fj,vI a0.fm,v0_3],vI a1,vI a2] w (aK w (fun (y:Tline) _ u=>u = .agg ((([vI y.fG.fw,vI y.fG.fx]:La Vc) ++ aa y.fG.fy ++ aa y.fG.fa ++ aa y.fG.fb ++ aa y.fG.fc ++ aa y.fd ++ aa y.fn)).toArray) (fun e=>.iface 115 (.agg #[vI e.fE])) r):=by
 unfold av_p at h
 refine BV func25 I I I fun _ cs0 hb0 hp0=>Ac<|RG.bx (AD w) I I fun w11 p3 Y4 J02=>RG.nl [vI 0,vI 0,vW 0,vW 0,vW 0,vW 0,vW 0,vW 0,vW 0,vW 0,vW 0,vW 0,vW 0,vW 0,vW 0,vW 0,vW 0,vW 0,vW 0,vW 0,vW 0,vW 0,vW 0,vW 0,vW 0,vW 0,vW 0,vW 0,vW 0,vW 0,vW 0,vW 0,vW 0,vW 0,vW 0,vW 0,vW 0,vW 0,vW 0,vW 0,vW 0,vW 0,vW 0,vW 0,vW 0,vW 0,vW 0,vW 0,vW 0,vW 0,vW 0,vW 0,vW 0,vW 0,vW 0,vW 0,vW 0,vW 0,vW 0,vW 0,vW 0,vW 0,vW 0,vW 0,vW 0,vW 0,vW 0,vW 0,vW 0,vW 0,vW 0,vW 0,vW 0,vW 0,vW 0,vW 0,vW 0,vW 0,vW 0,vW 0,vW 0,vW 0,vW 0,vW 0,vW 0,vW 0,vW 0,vW 0,vW 0,vW 0,vW 0,vW 0,vW 0,vW 0,vW 0,vW 0,vW 0,vW 0] Y4 fun w16 M1 I0 K02=>Aa<|Ac<|Ab (AC I (I0.memA .t1))<|bk h fun J1 W9 h=>Bm (vI J1) (bd 61) I (e1 I) (fun p q=>bA_c n (I0.hL0 hL q) a0 (I0.k0 h0_3 q) W9) I<|BF (fst:=[]) (cap:=[]) (vs:=[vI J1]) .plain (bd 48) func48 I I I I (e1 I) I fun Q00 B8 k9=>Ac<|Ae I<|Ab (FV.neq (i:=J1) (j:=0) I I)<|Aa<|MX.ifn I h (fun P3 h=>?_) (fun P3 h=>?_)
 refine Az<|MX.fin I<|Au (u:=.tuple #[]) B8 func48 I .nil I<|Aa<|Ac<|Ae I<|Ab (FV.lss (i:=a1) (j:=0) I I)<|Ae I<|BG (s:=20) I h (fun Q3 h=>?_) (fun Q3 h=>?_)
 refine Aw<|Aw<|Aw<|Aw<|Bq I I<|Ae I<|Aw<|Aw<|Bq I I<|Ae I<|Aw<|Aw<|Aw<|Aw<|Bq I I<|BF (fst:=[]) (cap:=[]) (vs:=[.bool true,vI 2]) .plain (bd 37) func37 I I I I (e2 I I) I fun V00 U04 s9=>Ac<|Ae I<|Aa<|Bg I<|Av<|Ae I<|BF (fst:=[]) (cap:=[]) (vs:=[vI 2]) .plain (bd 48) func48 I I I I (e1 I) I fun W00 V04 t9=>Ac<|Ae I<|Ab (FV.neqN (i:=2) (j:=0) I I)<|Aa<|Bg I<|Av<|Ae I<|Ab (AP (vs:=[vI 2]) (u:=.agg #[vI 2]) (e1 I) (fun p=>by kernel_rfl))<|Ab (BO I I)<|RG.panic .plain I<|AE t9 func48<|AE s9 func37 ?_
 cases h
 exact AE hp0 func25 ⟨I0.ag,I⟩
 refine AH (Ak I)<|RG.fg 0 I<|AH (AN I ((I0.memA .t1) 0 _ I))<|AH (FV.geq (i:=a1) (j:=a0.fl) I I)<|By I I<|Ae I<|BG (s:=26) I h (fun R3 h=>?_) (fun R3 h=>?_)
 refine Aw<|Aw<|Bq I I<|Ae I<|Aw<|Aw<|Aw<|Aw<|Bq I I<|BF (fst:=[]) (cap:=[]) (vs:=[.bool true,vI 2]) .plain (bd 37) func37 I I I I (e2 I I) I fun X00 W04 u9=>Ac<|Ae I<|Aa<|Bg I<|Av<|Ae I<|BF (fst:=[]) (cap:=[]) (vs:=[vI 2]) .plain (bd 48) func48 I I I I (e1 I) I fun Y00 X04 v9=>Ac<|Ae I<|Ab (FV.neqN (i:=2) (j:=0) I I)<|Aa<|Bg I<|Av<|Ae I<|Ab (AP (vs:=[vI 2]) (u:=.agg #[vI 2]) (e1 I) (fun p=>by kernel_rfl))<|Ab (BO I I)<|RG.panic .plain I<|AE v9 func48<|AE u9 func37 ?_
 cases h
 exact AE hp0 func25 ⟨I0.ag,I⟩
 refine AH (Ak I)<|AH (FV.lss (i:=a2) (j:=0) I I)<|By I I<|Ae I<|BG (s:=30) I h (fun U3 h=>?_) (fun U3 h=>?_)
 refine Aw<|Aw<|Aw<|Aw<|Bq I I<|BF (fst:=[]) (cap:=[]) (vs:=[.bool true,vI 2]) .plain (bd 37) func37 I I I I (e2 I I) I fun Z00 Y04 x9=>Ac<|Ae I<|Aa<|Bg I<|Av<|Ae I<|BF (fst:=[]) (cap:=[]) (vs:=[vI 2]) .plain (bd 48) func48 I I I I (e1 I) I fun b01 Z04 y9=>Ac<|Ae I<|Ab (FV.neqN (i:=2) (j:=0) I I)<|Aa<|Bg I<|Av<|Ae I<|Ab (AP (vs:=[vI 2]) (u:=.agg #[vI 2]) (e1 I) (fun p=>by kernel_rfl))<|Ab (BO I I)<|RG.panic .plain I<|AE y9 func48<|AE x9 func37 ?_
 cases h
 exact AE hp0 func25 ⟨I0.ag,I⟩
 refine AH (Ak I)<|RG.fg 1 I<|AH (AN I ((I0.memA .t1) 1 _ I))<|AH (FV.geq (i:=a2) (j:=a0.fj) I I)<|By I I<|BF (fst:=[]) (cap:=[]) (vs:=[.bool (decide (a0.fj <= a2)),vI 2]) .plain (bd 37) func37 I I I I (e2 I I) I fun c01 D8 z9=>Ac<|Ae I<|Aa<|Be I h (fun V3 h=>?_) (fun V3 h=>?_)
 refine Av<|Ae I<|BF (fst:=[]) (cap:=[]) (vs:=[vI 2]) .plain (bd 48) func48 I I I I (e1 I) I fun d01 b05 A9=>Ac<|Ae I<|Ab (FV.neqN (i:=2) (j:=0) I I)<|Aa<|Bg I<|Av<|Ae I<|Ab (AP (vs:=[vI 2]) (u:=.agg #[vI 2]) (e1 I) (fun p=>by kernel_rfl))<|Ab (BO I I)<|RG.panic .plain I<|AE A9 func48<|AE z9 func37 ?_
 cases h
 exact AE hp0 func25 ⟨I0.ag,I⟩
 refine Az<|MX.fin I<|Au (u:=.tuple #[]) D8 func37 I .nil I<|Aa<|Ac<|xk h (fun e54 H2 h=>?_) (fun p0 H2 h=>?_)
 refine BL (fst:=[]) (cap:=[]) .plain (bd 29) I (e2 I I) (fun p q=>ah_c n (I0.hL0 hL q)  H2) fun w56 Y7=>?_
 obtain ⟨A5,p03⟩:=I0.agr Y7
 cases h
 exact AE hp0 func25 ⟨A5.ag,I⟩
 refine Bm (.agg ((aa p0)).toArray) (bd 29) I (e2 I I) (fun p q=>AZ (ah_c n (I0.hL0 hL q)  H2)) I<|RG.nl ae I0 fun w62 R1 C5 q03=>AW (aa p0) C5 .hd (ai I) fun w66 I1 s03=>Aa<|Ac<|Ab (AC I (I1.memA .hd))<|Ab (AC I (I1.memA .hd))<|Ab (AC I (I1.memA .hd))<|Ab (AC I (I1.memA .hd))<|Ab (AP (vs:=[.agg ((aa p0)).toArray,.agg ((aa p0)).toArray,.agg ((aa p0)).toArray,.agg ((aa p0)).toArray]) (u:=.agg ((([vI 0,vI 0]:La Vc) ++ aa p0 ++ aa p0 ++ aa p0 ++ aa p0)).toArray) (e4 I I I I) (fun p=>by kernel_rfl))<|RG.nl [vI 0,vI 0,vW 0,vW 0,vW 0,vW 0,vW 0,vW 0,vW 0,vW 0,vW 0,vW 0,vW 0,vW 0,vW 0,vW 0,vW 0,vW 0,vW 0,vW 0,vW 0,vW 0,vW 0,vW 0,vW 0,vW 0,vW 0,vW 0,vW 0,vW 0,vW 0,vW 0,vW 0,vW 0,vW 0,vW 0,vW 0,vW 0,vW 0,vW 0,vW 0,vW 0,vW 0,vW 0,vW 0,vW 0,vW 0,vW 0,vW 0,vW 0,vW 0,vW 0,vW 0,vW 0,vW 0,vW 0,vW 0,vW 0,vW 0,vW 0,vW 0,vW 0,vW 0,vW 0,vW 0,vW 0] I1 fun w70 U1 G5 t03=>AW (([vI 0,vI 0]:La Vc) ++ aa p0 ++ aa p0 ++ aa p0 ++ aa p0) G5 .hd (ai I) fun w74 B1 y03=>Aa<|Aj<|Ac<|Ab (AC I (B1.memA .t3))<|Ae I<|Ae I ?_
 obtain ⟨A77,c78,K9,_⟩:=Rep.sl (Bb h0_3 B1)
 refine Ab (AP (vs:=[.agg #[vI a0.fl,vI a0.fj,vI a0.fm,v0_3],vI a1,vI a2]) (u:=.agg #[vI a0.fl,vI a0.fj,vI a0.fm,v0_3,vI a1,vI a2]) (e3 I I I) (fun p=>by rw [K9]; try kernel_rfl))<|jE (bd 62) I (e1 I) (fun p q=>Calls.gives (dN_c n (B1.hL hL q) (⟨a0,a1,a2⟩:Tpoll) (B1.km h0_3 q)) fun (w8:World) (u8:Vc) ⟨b0_,hu_,s_⟩=>(⟨b0_,hu_,s_.from q⟩:∃ k1:Nat,u8 = Value.func (.func 97) #[] #[vP k1]/\St w74 w8 [.cells k1 [vI a0.fl,vI a0.fj,vI a0.fm,v0_3,vI a1,vI a2] 120])) I fun w83 k05 Q04 ⟨k1,J9,H3⟩=>?_
 subst J9
 have j04:=iY B1 H3
 refine Aa<|AF<|MX.rangeP (lb:=[vP k1]) I (ez B1 H3) I (bd 97) func97 I I I fun w90 b2 g2 G3 k01 B2 v04 X9 F8 H0=>Ac<|Ba 0 I<|Ba 3 I<|AY I ((aT (B2.memA .t2) 0) 3 _ I) ?_
 have D3:=Bb h0_3 B2
 have c05:=Bh D3
 refine Ab (Bk (xs:=a0.fv) underlying29 I D3)<|Ae I<|Aa<|AF<|tn h fun g05 g9 D0=>MX.lo (α:=Nat × Int × Int × Ta × Ta × Ta × Ta) (fun ⟨E0,G0,v0,j0,g0,c0,d0⟩=>[(0,.func (.yield b2) #[] #[]),(1,vP k1),(10,v0_3),(11,vn a0.fv.length),(12,vn E0)]) (fun ⟨E0,G0,v0,j0,g0,c0,d0⟩=>[.obj b2 (lpO G3 .ready none),.obj g2 (.deferred (some [])),.cells k1 [vI a0.fl,vI a0.fj,vI a0.fm,v0_3,vI a1,vI a2] 120,.cells U1 (([vI G0,vI v0]:La Vc) ++ aa j0 ++ aa g0 ++ aa c0 ++ aa d0) 76,.cells R1 (aa p0) 46,.cells M1 [vI 0,vI 0,vW 0,vW 0,vW 0,vW 0,vW 0,vW 0,vW 0,vW 0,vW 0,vW 0,vW 0,vW 0,vW 0,vW 0,vW 0,vW 0,vW 0,vW 0,vW 0,vW 0,vW 0,vW 0,vW 0,vW 0,vW 0,vW 0,vW 0,vW 0,vW 0,vW 0,vW 0,vW 0,vW 0,vW 0,vW 0,vW 0,vW 0,vW 0,vW 0,vW 0,vW 0,vW 0,vW 0,vW 0,vW 0,vW 0,vW 0,vW 0,vW 0,vW 0,vW 0,vW 0,vW 0,vW 0,vW 0,vW 0,vW 0,vW 0,vW 0,vW 0,vW 0,vW 0,vW 0,vW 0,vW 0,vW 0,vW 0,vW 0,vW 0,vW 0,vW 0,vW 0,vW 0,vW 0,vW 0,vW 0,vW 0,vW 0,vW 0,vW 0,vW 0,vW 0,vW 0,vW 0,vW 0,vW 0,vW 0,vW 0,vW 0,vW 0,vW 0,vW 0,vW 0,vW 0,vW 0,vW 0] 78,.cells p3 [vI a0.fl,vI a0.fj,vI a0.fm,v0_3] 31]) (fun ⟨E0,G0,v0,j0,g0,c0,d0⟩=>(E0,G0,v0,j0,g0,c0,d0)) (0,0,0,p0,p0,p0,p0) g9 B2 ?_
 rintro s00 ⟨E0,G0,v0,j0,g0,c0,d0⟩ R07 V1 y2 W1 h
 unfold av_l2 at h
 try dsimp only at h
 refine Ac<|Ab (BD (i:=E0) (j:=a0.fv.length) I I)<|Aa<|Aj<|Be I h (fun W3 h=>?_) (fun W3 h=>?_)
 refine Az<|Aj<|AF<|Ac<|bk h fun F0 M9 h=>?_
 obtain ⟨g00,I00,G8,V8,g01,B9,Z8⟩:=Bw (Bb h0_3 y2) M9
 obtain ⟨I3,Y2,J3,rfl,F3,X1,C9⟩:=ba B9
 refine Ab (BE 6 E0 I G8 I I V8)<|Ab (AC I Z8)<|RG.nl [.string ⟨#[]⟩,vI 0,vN,vN,vN,.bool false] y2 fun u06 q3 B5 b1=>AW [.string F0.fB,vI F0.ft,I3,Y2,J3,.bool F0.fp] B5 .hd (o6 I I (AX (Ap F3 b1)) (AX (Ap X1 b1)) (AX (Ap C9 b1)) I) fun x06 A3 D1=>Aa<|Ac<|Ag I<|Aa<|Aj<|Ac<|Ba 3 I<|AY I ((A3.memA .hd) 3 _ I) ?_
 have E3:=Ap X1 (Tt b1 D1)
 have d05:=Bh E3
 refine Ab (Bk (xs:=F0.fH) underlying34 I E3)<|Ae I<|Aa<|AF ?_
 obtain ⟨j05,j9,Q8⟩:=av h
 refine MX.lo (α:=Int × Nat) (fun ⟨A1,c1⟩=>[(0,.func (.yield b2) #[] #[]),(1,vP k1),(10,v0_3),(11,vn a0.fv.length),(12,vn E0),(4,vP q3),(5,vI A1),(17,Y2),(18,vn F0.fH.length),(19,vn c1)]) (fun ⟨A1,c1⟩=>[.cells q3 [.string F0.fB,vI F0.ft,I3,Y2,J3,.bool F0.fp] 36,.obj b2 (lpO G3 .ready none),.obj g2 (.deferred (some [])),.cells k1 [vI a0.fl,vI a0.fj,vI a0.fm,v0_3,vI a1,vI a2] 120,.cells U1 (([vI G0,vI v0]:La Vc) ++ aa j0 ++ aa g0 ++ aa c0 ++ aa d0) 76,.cells R1 (aa p0) 46,.cells M1 [vI 0,vI 0,vW 0,vW 0,vW 0,vW 0,vW 0,vW 0,vW 0,vW 0,vW 0,vW 0,vW 0,vW 0,vW 0,vW 0,vW 0,vW 0,vW 0,vW 0,vW 0,vW 0,vW 0,vW 0,vW 0,vW 0,vW 0,vW 0,vW 0,vW 0,vW 0,vW 0,vW 0,vW 0,vW 0,vW 0,vW 0,vW 0,vW 0,vW 0,vW 0,vW 0,vW 0,vW 0,vW 0,vW 0,vW 0,vW 0,vW 0,vW 0,vW 0,vW 0,vW 0,vW 0,vW 0,vW 0,vW 0,vW 0,vW 0,vW 0,vW 0,vW 0,vW 0,vW 0,vW 0,vW 0,vW 0,vW 0,vW 0,vW 0,vW 0,vW 0,vW 0,vW 0,vW 0,vW 0,vW 0,vW 0,vW 0,vW 0,vW 0,vW 0,vW 0,vW 0,vW 0,vW 0,vW 0,vW 0,vW 0,vW 0,vW 0,vW 0,vW 0,vW 0,vW 0,vW 0,vW 0,vW 0] 78,.cells p3 [vI a0.fl,vI a0.fj,vI a0.fm,v0_3] 31]) (fun ⟨A1,c1⟩=>(A1,c1)) (0,0) j9 A3 ?_
 rintro t00 ⟨A1,c1⟩ U07 j4 B0 E1 h
 unfold av_l1 at h
 try dsimp only at h
 refine Ac<|Ab (BD (i:=c1) (j:=F0.fH.length) I I)<|Aa<|Aj<|Be I h (fun X3 h=>?_) (fun X3 h=>?_)
 refine Az<|Aj<|AF<|Ac<|bk h fun K3 P9 h=>?_
 obtain ⟨j00,J00,H8,W8,c4,D9,b9⟩:=Bw (Ap X1 (Tt b1 (Tt D1 E1))) P9
 have I8:c4 = [vI K3]:=D9; subst I8
 refine Ab (BE 1 c1 I H8 I I W8)<|AY I (b9 0 _ I)<|Ag I<|Aa<|Av<|Ae I<|Ae I<|bk h fun Y9 G9 h=>Ab (BR (i:=A1) (j:=K3) I I G9)<|Ag I<|Aa<|AI<|Av<|Ab (Bu (i:=c1) (j:=1) I I (by omega))<|Ae I<|Aa<|j4 (Y9,c1 + 1) B0 E1 h
 refine Bj I ?_
 have h:=Q8 _ h
 try dsimp only at h
 refine Aj<|Ac<|Ba 5 I<|AY I ((B0.memA .hd) 5 _ I)<|Ae I<|RG.ifb (s:=29) I h (fun Y3 h=>?_) (fun Y3 h=>?_)
 refine Aw<|Aw<|Aw<|Bq I I<|Ae I<|Aw<|Aw<|Bq I I<|Aa<|Bg I<|Bj I<|Av<|Ab (Bu (i:=E0) (j:=1) I I (by omega))<|Ae I<|Aa ?_
 obtain ⟨D5,q7⟩:=Am B0 .d1
 exact V1 (E0 + 1,G0,v0,j0,g0,c0,d0) D5 (Tt W1 (Tt b1 (Tt D1 (Tt E1 q7)))) h
 refine RG.fg 1 I<|AH (AN I ((B0.memA .hd) 1 _ I))<|AH (FV.eql (i:=F0.ft) (j:=0) I I)<|By I I<|Ae I<|BG (s:=34) I h (fun Z3 h=>?_) (fun Z3 h=>?_)
 refine Aw<|Aw<|Bq I I<|Aa<|Bg I<|Bj I<|Av<|Ab (Bu (i:=E0) (j:=1) I I (by omega))<|Ae I<|Aa ?_
 obtain ⟨E5,s7⟩:=Am B0 .d1
 exact V1 (E0 + 1,G0,v0,j0,g0,c0,d0) E5 (Tt W1 (Tt b1 (Tt D1 (Tt E1 s7)))) h
 refine AH (Ak I)<|AH (FV.eql (i:=A1) (j:=0) I I)<|By I I<|Aa<|Be I h (fun b4 h=>?_) (fun b4 h=>?_)
 refine Bj I<|Av<|Ab (Bu (i:=E0) (j:=1) I I (by omega))<|Ae I<|Aa ?_
 obtain ⟨F5,t7⟩:=Am B0 .d1
 exact V1 (E0 + 1,G0,v0,j0,g0,c0,d0) F5 (Tt W1 (Tt b1 (Tt D1 (Tt E1 t7)))) h
 refine Az<|Aj<|du 18 fun q0 u0=>Rv 0 q0 I u0 (fun _=>Ak I)<|Rv 1 q0 I u0 (fun _=>AS 1 I)<|Rx 2 917504 q0 I u0 (AN I ((B0.memA .hd) 1 _ I))<|Rv 3 q0 I u0 (fun _=>AS 2 I)<|Rx 4 917888 q0 I u0 (AN I ((B0.memA .hd) 2 _ I))<|Rv 5 q0 I u0 (fun _=>AS 4 I)<|Rx 6 917888 q0 I u0 (AN I ((B0.memA .t3) 4 _ I))<|bk h fun F1 Q9 h=>?_
 obtain ⟨R8,R9⟩:=aL Q9
 have E2:=Tt b1 (Tt D1 E1)
 obtain ⟨k00,K00,J8,X8,d4,E9,c9⟩:=Bw (Ap F3 E2) R9
 have K8:d4 = [vI F1]:=E9; subst K8
 refine Rv 7 q0 I u0 (fun _=>BE 1 (a1.toNat) I J8 I R8 X8)<|Rx 8 917504 q0 I u0 (AN I (c9 0 _ I))<|Rv 9 q0 I u0 (fun _=>AS 3 I)<|Rx 10 1007616 q0 I u0 (AN I ((B0.memA .hd) 3 _ I))<|Rv 11 q0 I u0 (fun _=>AS 5 I)<|Rx 12 1007616 q0 I u0 (AN I ((B0.memA .t3) 5 _ I))<|bk h fun d00 U9 h=>?_
 obtain ⟨U8,V9⟩:=aL U9
 obtain ⟨p00,M00,M8,Y8,g4,F9,d9⟩:=Bw (Ap X1 E2) V9
 have P8:g4 = [vI d00]:=F9; subst P8
 refine Rv 13 q0 I u0 (fun _=>BE 1 (a2.toNat) I M8 I U8 Y8)<|Rx 14 983040 q0 I u0 (AN I (d9 0 _ I))<|Rv 15 q0 I u0 (fun _=>Ak I)<|xk h (fun u01 I2 h=>?_) (fun A0 I2 h=>?_)
 have h:=ar h D0
 refine AT (i:=16) (rk q0) (BC (fst:=[]) (cap:=[]) I .plain (bd 29) I (e2 I I) (fun p q=>ah_c n (B0.hL0 hL q)  I2) (fun A06 Z7=>?_))
 obtain ⟨H5,u03⟩:=B0.agr Z7
 refine AE H0 func97<|BT H5 .t2 fun B06 I5 v03=>?_
 obtain ⟨J5,x03⟩:=Am I5 (.a0 (.a0 .d1))
 cases h
 exact AE hp0 func25 ⟨J5.ag,I⟩
 refine BQ 16 131071 917504 (.agg ((aa A0)).toArray) q0 I u0 (bd 29) I (e2 I I) (fun p q=>AZ (ah_c n (B0.hL0 hL q)  I2)) I<|Rv 17 q0 I u0 (fun _=>AP (vs:=[vI F0.ft,vI F1,.agg ((aa A0)).toArray]) (u:=.agg ((([vI F0.ft,vI F1]:La Vc) ++ aa A0)).toArray) (e3 I I I) (fun p=>by kernel_rfl))<|AT (i:=18) (rk q0) (RO.yieldPT (fd:=25) (m' :=524287) (vs:=[.agg ((([vI F0.ft,vI F1]:La Vc) ++ aa A0)).toArray]) (sk q0) I I .plain I (e1 I) B0 .t1 X9 I I I (fun _ j01 E8 K0=>?_))
 refine Av<|RG.nl [vI 0,vI 0,vW 0,vW 0,vW 0,vW 0,vW 0,vW 0,vW 0,vW 0,vW 0,vW 0,vW 0,vW 0,vW 0,vW 0,vW 0,vW 0] B0 fun C06 E00 K5 u7=>AW (([vI F0.ft,vI F1]:La Vc) ++ aa A0) K5 .hd (ai I) fun D06 M5 v7=>Aa<|MX.begin M5 .t2 fun E06 z2 x7=>AF<|Ac<|Ba 0 I<|AY I ((z2.memA .t5) 0 _ I)<|Ba 0 I<|AY I ((z2.memA .hd) 0 _ I)<|bk h fun Q0 H9 h=>Ab (BR (i:=G0) (j:=F0.ft) I I H9)<|Ba 0 I<|BU .plain (Bs (j:=0) (old:=(([vI G0,vI v0]:La Vc) ++ aa j0 ++ aa g0 ++ aa c0 ++ aa d0)) (news:=[vI Q0]) (new' :=(([vI Q0,vI v0]:La Vc) ++ aa j0 ++ aa g0 ++ aa c0 ++ aa d0)) z2 .t5 I I I I I I (o1 I) I) fun F06 A2 y7=>Aa<|Ac<|Ba 1 I<|AY I ((A2.memA .t5) 1 _ I)<|Ba 1 I<|AY I ((A2.memA .hd) 1 _ I)<|bk h fun X0 I9 h=>Ab (BR (i:=v0) (j:=F1) I I I9)<|Ba 1 I<|BU .plain (Bs (j:=1) (old:=(([vI Q0,vI v0]:La Vc) ++ aa j0 ++ aa g0 ++ aa c0 ++ aa d0)) (news:=[vI X0]) (new' :=(([vI Q0,vI X0]:La Vc) ++ aa j0 ++ aa g0 ++ aa c0 ++ aa d0)) A2 .t5 I I I I I I (o1 I) I) fun G06 R0 z7=>Aa<|Aj<|du 7 fun y0 q1=>Rv 0 y0 I q1 (fun _=>AS 0 I)<|Rx 1 164 y0 I q1 (AN I ((R0.memA .hd) 0 _ I))<|xk h (fun v01 Y1 h=>?_) (fun c2 Y1 h=>?_)
 refine Rv 3 y0 I q1 (fun _=>AS 2 I)<|Rx 4 160 y0 I q1 (Aq (cs:=(aa A0)) I I (ac (R0.memA .hd) 2 16))<|AM [2,6] (rk y0) ⟨?_,?_,trivial⟩
 have h:=ar h D0
 refine BC (fst:=[]) (cap:=[]) I .plain (bd 29) I (e2 I I) (fun p q=>ah_c n (R0.hL0 hL q)  Y1) fun H06 b8=>?_
 obtain ⟨P5,z03⟩:=R0.agr b8
 refine AE K0 func25<|AE H0 func97<|BT P5 .t3 fun I06 Q5 A03=>?_
 obtain ⟨R5,B03⟩:=Am Q5 (.a0 (.a0 (.a0 .d1)))
 cases h
 exact AE hp0 func25 ⟨R5.ag,I⟩
 refine Bf (m' :=91) (sk y0) I .plain I (Al ae R0) fun J06 F00 B3 C03=>?_
 have h:=ar h D0
 refine AT (i:=2) (rk y0) (BC (fst:=[]) (cap:=[]) I .plain (bd 29) I (e2 I I) (fun p q=>ah_c n (B3.hL0 hL q)  Y1) (fun K06 c8=>?_))
 obtain ⟨U5,D03⟩:=B3.agr c8
 refine AE K0 func25<|AE H0 func97<|BT U5 .t4 fun M06 V5 E03=>?_
 obtain ⟨W5,F03⟩:=Am V5 (.a0 (.a0 (.a0 (.a0 .d1))))
 cases h
 exact AE hp0 func25 ⟨W5.ag,I⟩
 refine BQ 2 7 160 (.agg ((aa c2)).toArray) y0 I q1 (bd 29) I (e2 I I) (fun p q=>AZ (ah_c n (R0.hL0 hL q)  Y1)) I<|Rv 3 y0 I q1 (fun _=>AS 2 I)<|Rx 4 160 y0 I q1 (Aq (cs:=(aa A0)) I I (ac (R0.memA .hd) 2 16))<|xk h (fun x01 Z1 h=>?_) (fun G1 Z1 h=>?_)
 refine AM [5,6] (rk y0) ⟨?_,?_,trivial⟩
 have h:=ar h D0
 refine BC (fst:=[]) (cap:=[]) I .plain (bd 28) I (e2 I I) (fun p q=>ao_c n (R0.hL0 hL q) c2 A0 Z1) fun P06 d8=>?_
 obtain ⟨X5,G03⟩:=R0.agr d8
 refine AE K0 func25<|AE H0 func97<|BT X5 .t3 fun Q06 Y5 H03=>?_
 obtain ⟨Z5,I03⟩:=Am Y5 (.a0 (.a0 (.a0 .d1)))
 cases h
 exact AE hp0 func25 ⟨Z5.ag,I⟩
 refine Bf (m' :=95) (sk y0) I .plain I (Al ae R0) fun R06 G00 C3 J03=>?_
 have h:=ar h D0
 refine AT (i:=5) (rk y0) (BC (fst:=[]) (cap:=[]) I .plain (bd 28) I (e2 I I) (fun p q=>ao_c n (C3.hL0 hL q) c2 A0 Z1) (fun U06 g8=>?_))
 obtain ⟨b6,K03⟩:=C3.agr g8
 refine AE K0 func25<|AE H0 func97<|BT b6 .t4 fun V06 c6 M03=>?_
 obtain ⟨d6,P03⟩:=Am c6 (.a0 (.a0 (.a0 (.a0 .d1))))
 cases h
 exact AE hp0 func25 ⟨d6.ag,I⟩
 refine BQ 5 63 128 (.agg ((aa G1)).toArray) y0 I q1 (bd 28) I (e2 I I) (fun p q=>AZ (ao_c n (R0.hL0 hL q) c2 A0 Z1)) I<|Ca 6 127 y0 I .plain I (Al ae R0) fun W06 H00 g6 A7=>Bv 7 255 y0 I I .plain (Ax (news:=(aa G1)) g6 .hd I I I I I I (ai I)) fun X06 C1 B7=>AO (dk y0)<|Ac<|Ba 2 I<|Ab (Aq (cs:=(aa j0)) I I (ac (C1.memA .t6) 2 16))<|Ab (AC I (C1.memA .hd))<|xk h (fun y01 J2 h=>?_) (fun Z0 J2 h=>?_)
 have h:=ar h D0
 refine BL (fst:=[]) (cap:=[]) .plain (bd 63) I (e2 I I) (fun p q=>bm_c n (C1.hL0 hL q) j0 G1 J2) fun Z06 j8=>?_
 obtain ⟨j6,Q03⟩:=C1.agr j8
 refine AE K0 func25<|AE H0 func97<|BT j6 .t4 fun b07 k6 R03=>?_
 obtain ⟨p6,U03⟩:=Am k6 (.a0 (.a0 (.a0 (.a0 .d1))))
 cases h
 exact AE hp0 func25 ⟨p6.ag,I⟩
 refine Bm (.agg ((aa Z0)).toArray) (bd 63) I (e2 I I) (fun p q=>AZ (bm_c n (C1.hL0 hL q) j0 G1 J2)) I<|Ba 2 I<|BU .plain (Bs (j:=2) (old:=(([vI Q0,vI X0]:La Vc) ++ aa j0 ++ aa g0 ++ aa c0 ++ aa d0)) (news:=(aa Z0)) (new' :=(([vI Q0,vI X0]:La Vc) ++ aa Z0 ++ aa g0 ++ aa c0 ++ aa d0)) C1 .t6 I I I I I I (ai I) I) fun c07 t0 C7=>Aa<|Aj<|du 13 fun s0 x0=>Rv 0 s0 I x0 (fun _=>AS 18 I)<|Rx 1 14336 s0 I x0 (Aq (cs:=(aa g0)) I I (ac (t0.memA .t6) 18 16))<|Rv 2 s0 I x0 (fun _=>AS 1 I)<|Rx 3 15888 s0 I x0 (AN I ((t0.memA .t1) 1 _ I))<|xk h (fun z01 K2 h=>?_) (fun Z2 K2 h=>?_)
 refine Rv 5 s0 I x0 (fun _=>AS 1 I)<|Rx 6 15872 s0 I x0 (AN I ((t0.memA .t1) 1 _ I))<|Rv 7 s0 I x0 (fun _=>AS 0 I)<|Rx 8 15872 s0 I x0 (AN I ((t0.memA .t1) 0 _ I)) ?_
 have h:=ar h D0
 refine AT (i:=4) (rk s0) (BC (fst:=[]) (cap:=[]) I .plain (bd 29) I (e2 I I) (fun p q=>ah_c n (t0.hL0 hL q)  K2) (fun d07 k8=>?_))
 obtain ⟨q6,V03⟩:=t0.agr k8
 refine AE K0 func25<|AE H0 func97<|BT q6 .t4 fun g07 s6 W03=>?_
 obtain ⟨u6,X03⟩:=Am s6 (.a0 (.a0 (.a0 (.a0 .d1))))
 cases h
 exact AE hp0 func25 ⟨u6.ag,I⟩
 refine BQ 4 31 15872 (.agg ((aa Z2)).toArray) s0 I x0 (bd 29) I (e2 I I) (fun p q=>AZ (ah_c n (t0.hL0 hL q)  K2)) I<|Rv 5 s0 I x0 (fun _=>AS 1 I)<|Rx 6 15872 s0 I x0 (AN I ((t0.memA .t1) 1 _ I))<|Rv 7 s0 I x0 (fun _=>AS 0 I)<|Rx 8 15872 s0 I x0 (AN I ((t0.memA .t1) 0 _ I))<|xk h (fun A01 M2 h=>?_) (fun b3 M2 h=>?_)
 have h:=ar h D0
 refine AT (i:=9) (rk s0) (BC (fst:=[]) (cap:=[]) I .plain (bd 29) I (e2 I I) (fun p q=>ah_c n (t0.hL0 hL q)  M2) (fun j07 p8=>?_))
 obtain ⟨v6,Y03⟩:=t0.agr p8
 refine AE K0 func25<|AE H0 func97<|BT v6 .t4 fun k07 x6 Z03=>?_
 obtain ⟨y6,b04⟩:=Am x6 (.a0 (.a0 (.a0 (.a0 .d1))))
 cases h
 exact AE hp0 func25 ⟨y6.ag,I⟩
 refine BQ 9 1023 15360 (.agg ((aa b3)).toArray) s0 I x0 (bd 29) I (e2 I I) (fun p q=>AZ (ah_c n (t0.hL0 hL q)  M2)) I<|xk h (fun B01 P2 h=>?_) (fun c3 P2 h=>?_)
 have h:=ar h D0
 refine AT (i:=10) (rk s0) (BC (fst:=[]) (cap:=[]) I .plain (bd 28) I (e2 I I) (fun p q=>ao_c n (t0.hL0 hL q) Z2 b3 P2) (fun p07 q8=>?_))
 obtain ⟨z6,c04⟩:=t0.agr q8
 refine AE K0 func25<|AE H0 func97<|BT z6 .t4 fun q07 A6 d04=>?_
 obtain ⟨B6,g04⟩:=Am A6 (.a0 (.a0 (.a0 (.a0 .d1))))
 cases h
 exact AE hp0 func25 ⟨B6.ag,I⟩
 refine BQ 10 2047 14336 (.agg ((aa c3)).toArray) s0 I x0 (bd 28) I (e2 I I) (fun p q=>AZ (ao_c n (t0.hL0 hL q) Z2 b3 P2)) I<|xk h (fun C01 Q2 h=>?_) (fun v1 Q2 h=>?_)
 have h:=ar h D0
 refine AT (i:=11) (rk s0) (BC (fst:=[]) (cap:=[]) I .plain (bd 63) I (e2 I I) (fun p q=>bm_c n (t0.hL0 hL q) g0 c3 Q2) (fun s07 s8=>?_))
 obtain ⟨C6,k04⟩:=t0.agr s8
 refine AE K0 func25<|AE H0 func97<|BT C6 .t4 fun t07 D6 p04=>?_
 obtain ⟨E6,q04⟩:=Am D6 (.a0 (.a0 (.a0 (.a0 .d1))))
 cases h
 exact AE hp0 func25 ⟨E6.ag,I⟩
 refine BQ 11 4095 12288 (.agg ((aa v1)).toArray) s0 I x0 (bd 63) I (e2 I I) (fun p q=>AZ (bm_c n (t0.hL0 hL q) g0 c3 Q2)) I<|Rv 12 s0 I x0 (fun _=>AS 18 I)<|Bv 13 16383 s0 I I .plain (Bs (j:=18) (old:=(([vI Q0,vI X0]:La Vc) ++ aa Z0 ++ aa g0 ++ aa c0 ++ aa d0)) (news:=(aa v1)) (new' :=(([vI Q0,vI X0]:La Vc) ++ aa Z0 ++ aa v1 ++ aa c0 ++ aa d0)) t0 .t6 I I I I I I (ai I) I) fun u07 J0 D7=>AO (dk s0)<|Aj<|du 10 fun z0 U0=>Rv 0 z0 I U0 (fun _=>AS 34 I)<|Rx 1 1792 z0 I U0 (Aq (cs:=(aa c0)) I I (ac (J0.memA .t6) 34 16))<|Rv 2 z0 I U0 (fun _=>AS 1 I)<|Rx 3 1936 z0 I U0 (AN I ((J0.memA .t1) 1 _ I))<|xk h (fun D01 R2 h=>?_) (fun g3 R2 h=>?_)
 refine Rv 5 z0 I U0 (fun _=>AS 2 I)<|Rx 6 1920 z0 I U0 (Aq (cs:=(aa A0)) I I (ac (J0.memA .t1) 2 16)) ?_
 have h:=ar h D0
 refine AT (i:=4) (rk z0) (BC (fst:=[]) (cap:=[]) I .plain (bd 29) I (e2 I I) (fun p q=>ah_c n (J0.hL0 hL q)  R2) (fun x07 t8=>?_))
 obtain ⟨F6,s04⟩:=J0.agr t8
 refine AE K0 func25<|AE H0 func97<|BT F6 .t4 fun y07 G6 t04=>?_
 obtain ⟨H6,u04⟩:=Am G6 (.a0 (.a0 (.a0 (.a0 .d1))))
 cases h
 exact AE hp0 func25 ⟨H6.ag,I⟩
 refine BQ 4 31 1920 (.agg ((aa g3)).toArray) z0 I U0 (bd 29) I (e2 I I) (fun p q=>AZ (ah_c n (J0.hL0 hL q)  R2)) I<|Rv 5 z0 I U0 (fun _=>AS 2 I)<|Rx 6 1920 z0 I U0 (Aq (cs:=(aa A0)) I I (ac (J0.memA .t1) 2 16))<|xk h (fun E01 U2 h=>?_) (fun j3 U2 h=>?_)
 have h:=ar h D0
 refine AT (i:=7) (rk z0) (BC (fst:=[]) (cap:=[]) I .plain (bd 28) I (e2 I I) (fun p q=>ao_c n (J0.hL0 hL q) g3 A0 U2) (fun z07 v8=>?_))
 obtain ⟨I6,x04⟩:=J0.agr v8
 refine AE K0 func25<|AE H0 func97<|BT I6 .t4 fun A07 J6 y04=>?_
 obtain ⟨K6,z04⟩:=Am J6 (.a0 (.a0 (.a0 (.a0 .d1))))
 cases h
 exact AE hp0 func25 ⟨K6.ag,I⟩
 refine BQ 7 255 1792 (.agg ((aa j3)).toArray) z0 I U0 (bd 28) I (e2 I I) (fun p q=>AZ (ao_c n (J0.hL0 hL q) g3 A0 U2)) I<|xk h (fun F01 V2 h=>?_) (fun H1 V2 h=>?_)
 have h:=ar h D0
 refine AT (i:=8) (rk z0) (BC (fst:=[]) (cap:=[]) I .plain (bd 63) I (e2 I I) (fun p q=>bm_c n (J0.hL0 hL q) c0 j3 V2) (fun B07 x8=>?_))
 obtain ⟨M6,A04⟩:=J0.agr x8
 refine AE K0 func25<|AE H0 func97<|BT M6 .t4 fun C07 P6 B04=>?_
 obtain ⟨Q6,C04⟩:=Am P6 (.a0 (.a0 (.a0 (.a0 .d1))))
 cases h
 exact AE hp0 func25 ⟨Q6.ag,I⟩
 refine BQ 8 511 1536 (.agg ((aa H1)).toArray) z0 I U0 (bd 63) I (e2 I I) (fun p q=>AZ (bm_c n (J0.hL0 hL q) c0 j3 V2)) I<|Rv 9 z0 I U0 (fun _=>AS 34 I)<|Bv 10 2047 z0 I I .plain (Bs (j:=34) (old:=(([vI Q0,vI X0]:La Vc) ++ aa Z0 ++ aa v1 ++ aa c0 ++ aa d0)) (news:=(aa H1)) (new' :=(([vI Q0,vI X0]:La Vc) ++ aa Z0 ++ aa v1 ++ aa H1 ++ aa d0)) J0 .t6 I I I I I I (ai I) I) fun D07 Y0 E7=>AO (dk z0)<|du 8 fun V0 s1=>Rv 0 V0 I s1 (fun _=>AS 50 I)<|Rx 1 448 V0 I s1 (Aq (cs:=(aa d0)) I I (ac (Y0.memA .t6) 50 16))<|Rx 2 480 V0 I s1 (AC I (Y0.memA .hd))<|Rv 3 V0 I s1 (fun _=>AS 2 I)<|Rx 4 480 V0 I s1 (Aq (cs:=(aa A0)) I I (ac (Y0.memA .t1) 2 16))<|xk h (fun G01 W2 h=>?_) (fun k3 W2 h=>?_)
 have h:=ar h D0
 refine AT (i:=5) (rk V0) (BC (fst:=[]) (cap:=[]) I .plain (bd 28) I (e2 I I) (fun p q=>ao_c n (Y0.hL0 hL q) G1 A0 W2) (fun E07 y8=>?_))
 obtain ⟨R6,D04⟩:=Y0.agr y8
 refine AE K0 func25<|AE H0 func97<|BT R6 .t4 fun F07 U6 E04=>?_
 obtain ⟨V6,F04⟩:=Am U6 (.a0 (.a0 (.a0 (.a0 .d1))))
 cases h
 exact AE hp0 func25 ⟨V6.ag,I⟩
 refine BQ 5 63 448 (.agg ((aa k3)).toArray) V0 I s1 (bd 28) I (e2 I I) (fun p q=>AZ (ao_c n (Y0.hL0 hL q) G1 A0 W2)) I<|xk h (fun H01 X2 h=>?_) (fun d2 X2 h=>?_)
 have h:=ar h D0
 refine AT (i:=6) (rk V0) (BC (fst:=[]) (cap:=[]) I .plain (bd 63) I (e2 I I) (fun p q=>bm_c n (Y0.hL0 hL q) d0 k3 X2) (fun G07 z8=>?_))
 obtain ⟨W6,G04⟩:=Y0.agr z8
 refine AE K0 func25<|AE H0 func97<|BT W6 .t4 fun H07 X6 H04=>?_
 obtain ⟨Y6,I04⟩:=Am X6 (.a0 (.a0 (.a0 (.a0 .d1))))
 cases h
 exact AE hp0 func25 ⟨Y6.ag,I⟩
 refine BQ 6 127 384 (.agg ((aa d2)).toArray) V0 I s1 (bd 63) I (e2 I I) (fun p q=>AZ (bm_c n (Y0.hL0 hL q) d0 k3 X2)) I<|Rv 7 V0 I s1 (fun _=>AS 50 I)<|Bv 8 511 V0 I I .plain (Bs (j:=50) (old:=(([vI Q0,vI X0]:La Vc) ++ aa Z0 ++ aa v1 ++ aa H1 ++ aa d0)) (news:=(aa d2)) (new' :=(([vI Q0,vI X0]:La Vc) ++ aa Z0 ++ aa v1 ++ aa H1 ++ aa d2)) Y0 .t6 I I I I I I (ai I) I) fun I07 Z6 F7=>AO (dk V0)<|AI<|MX.roundEnd E8 Z6 .t3 fun J07 b7 G7=>Rv 19 q0 I u0 (fun _=>Bz I)<|AO (dk q0)<|BP I<|Az<|AI<|Av<|Ab (Bu (i:=E0) (j:=1) I I (by omega))<|Ae I<|Aa ?_
 obtain ⟨c7,H7⟩:=Am b7 .d3
 exact V1 (E0 + 1,Q0,X0,Z0,v1,H1,d2) c7 (Tt W1 (Tt E2 (Tt u7 (Tt v7 (Tt x7 (Tt y7 (Tt z7 (Tt A7 (Tt B7 (Tt C7 (Tt D7 (Tt E7 (Tt F7 (Tt G7 H7)))))))))))))) h
 refine Bj I ?_
 have h:=aI h D0
 try dsimp only at h
 refine MX.fin rfl<|Au (u:=.tuple #[]) F8 func97 rfl .nil rfl<|MX.endRange0 y2 .hd (by intro h9; cases h9) fun K07 d7 J04=>?_
 obtain ⟨C0,K04⟩:=Am d7 .d1
 refine AI<|Ac<|Ag I<|Aa<|Aj<|du 8 fun b0 u1=>Rv 0 b0 I u1 (fun _=>AS 0 I)<|Rx 1 804 b0 I u1 (AN I ((C0.memA .t2) 0 _ I))<|xk h (fun I01 y1 h=>?_) (fun z1 y1 h=>?_)
 refine Rv 3 b0 I u1 (fun _=>AS 1 I)<|Rx 4 800 b0 I u1 (AN I ((C0.memA .t2) 1 _ I))<|AM [2,6,7] (rk b0) ⟨?_,?_,?_,trivial⟩
 refine BC (fst:=[]) (cap:=[]) I .plain (bd 29) I (e2 I I) (fun p q=>ah_c n (C0.hL0 hL q)  y1) fun M07 A8=>?_
 obtain ⟨g7,M04⟩:=C0.agr A8
 refine BT g7 .hd fun P07 j7 P04=>?_
 obtain ⟨k4,J01⟩:=Am j7 .d1
 cases h
 exact AE hp0 func25 ⟨k4.ag,I⟩
 refine Bf (m' :=91) (sk b0) I .plain I (Al ae C0) fun p05 u00 p2 K01=>AM [2,7] (rk b0) ⟨?_,?_,trivial⟩
 refine BC (fst:=[]) (cap:=[]) I .plain (bd 29) I (e2 I I) (fun p q=>ah_c n (p2.hL0 hL q)  y1) fun q05 I7=>?_
 obtain ⟨p4,M01⟩:=p2.agr I7
 refine BT p4 .t1 fun s05 q4 P01=>?_
 obtain ⟨s4,Q01⟩:=Am q4 (.a0 .d1)
 cases h
 exact AE hp0 func25 ⟨s4.ag,I⟩
 refine Bf (m' :=219) (sk b0) I .plain I (Al ae p2) fun t05 v00 u3 R01=>AT (i:=2) (rk b0) (BC (fst:=[]) (cap:=[]) I .plain (bd 29) I (e2 I I) (fun p q=>ah_c n (u3.hL0 hL q)  y1) (fun u05 J7=>?_))
 obtain ⟨u4,U01⟩:=u3.agr J7
 refine BT u4 .t2 fun v05 v4 V01=>?_
 obtain ⟨x4,W01⟩:=Am v4 (.a0 (.a0 .d1))
 cases h
 exact AE hp0 func25 ⟨x4.ag,I⟩
 refine Bf (m' :=155) (sk b0) I .plain I (Al ae C0) fun x05 x00 q2 X01=>AM [2,6] (rk b0) ⟨?_,?_,trivial⟩
 refine BC (fst:=[]) (cap:=[]) I .plain (bd 29) I (e2 I I) (fun p q=>ah_c n (q2.hL0 hL q)  y1) fun y05 K7=>?_
 obtain ⟨y4,Y01⟩:=q2.agr K7
 refine BT y4 .t1 fun z05 z4 Z01=>?_
 obtain ⟨A4,b02⟩:=Am z4 (.a0 .d1)
 cases h
 exact AE hp0 func25 ⟨A4.ag,I⟩
 refine Bf (m' :=219) (sk b0) I .plain I (Al ae q2) fun A05 y00 v3 c02=>AT (i:=2) (rk b0) (BC (fst:=[]) (cap:=[]) I .plain (bd 29) I (e2 I I) (fun p q=>ah_c n (v3.hL0 hL q)  y1) (fun B05 M7=>?_))
 obtain ⟨B4,d02⟩:=v3.agr M7
 refine BT B4 .t2 fun C05 C4 g02=>?_
 obtain ⟨D4,j02⟩:=Am C4 (.a0 (.a0 .d1))
 cases h
 exact AE hp0 func25 ⟨D4.ag,I⟩
 refine BQ 2 7 800 (.agg ((aa z1)).toArray) b0 I u1 (bd 29) I (e2 I I) (fun p q=>AZ (ah_c n (C0.hL0 hL q)  y1)) I<|Rv 3 b0 I u1 (fun _=>AS 1 I)<|Rx 4 800 b0 I u1 (AN I ((C0.memA .t2) 1 _ I))<|xk h (fun p01 x1 h=>?_) (fun g1 x1 h=>?_)
 refine AM [5,6,7] (rk b0) ⟨?_,?_,?_,trivial⟩
 refine BC (fst:=[]) (cap:=[]) I .plain (bd 29) I (e2 I I) (fun p q=>ah_c n (C0.hL0 hL q)  x1) fun D05 P7=>?_
 obtain ⟨E4,k02⟩:=C0.agr P7
 refine BT E4 .hd fun E05 F4 p02=>?_
 obtain ⟨G4,q02⟩:=Am F4 .d1
 cases h
 exact AE hp0 func25 ⟨G4.ag,I⟩
 refine Bf (m' :=95) (sk b0) I .plain I (Al ae C0) fun F05 z00 s2 s02=>AM [5,7] (rk b0) ⟨?_,?_,trivial⟩
 refine BC (fst:=[]) (cap:=[]) I .plain (bd 29) I (e2 I I) (fun p q=>ah_c n (s2.hL0 hL q)  x1) fun G05 Q7=>?_
 obtain ⟨H4,t02⟩:=s2.agr Q7
 refine BT H4 .t1 fun H05 I4 u02=>?_
 obtain ⟨J4,v02⟩:=Am I4 (.a0 .d1)
 cases h
 exact AE hp0 func25 ⟨J4.ag,I⟩
 refine Bf (m' :=223) (sk b0) I .plain I (Al ae s2) fun I05 A00 x3 x02=>AT (i:=5) (rk b0) (BC (fst:=[]) (cap:=[]) I .plain (bd 29) I (e2 I I) (fun p q=>ah_c n (x3.hL0 hL q)  x1) (fun J05 R7=>?_))
 obtain ⟨K4,y02⟩:=x3.agr R7
 refine BT K4 .t2 fun K05 M4 z02=>?_
 obtain ⟨P4,A02⟩:=Am M4 (.a0 (.a0 .d1))
 cases h
 exact AE hp0 func25 ⟨P4.ag,I⟩
 refine Bf (m' :=159) (sk b0) I .plain I (Al ae C0) fun P05 B00 u2 B02=>AM [5,6] (rk b0) ⟨?_,?_,trivial⟩
 refine BC (fst:=[]) (cap:=[]) I .plain (bd 29) I (e2 I I) (fun p q=>ah_c n (u2.hL0 hL q)  x1) fun Q05 U7=>?_
 obtain ⟨Q4,C02⟩:=u2.agr U7
 refine BT Q4 .t1 fun R05 R4 D02=>?_
 obtain ⟨U4,E02⟩:=Am R4 (.a0 .d1)
 cases h
 exact AE hp0 func25 ⟨U4.ag,I⟩
 refine Bf (m' :=223) (sk b0) I .plain I (Al ae u2) fun U05 C00 y3 F02=>AT (i:=5) (rk b0) (BC (fst:=[]) (cap:=[]) I .plain (bd 29) I (e2 I I) (fun p q=>ah_c n (y3.hL0 hL q)  x1) (fun V05 V7=>?_))
 obtain ⟨V4,G02⟩:=y3.agr V7
 refine BT V4 .t2 fun W05 W4 H02=>?_
 obtain ⟨X4,I02⟩:=Am W4 (.a0 (.a0 .d1))
 cases h
 exact AE hp0 func25 ⟨X4.ag,I⟩
 refine BQ 5 63 768 (.agg ((aa g1)).toArray) b0 I u1 (bd 29) I (e2 I I) (fun p q=>AZ (ah_c n (C0.hL0 hL q)  x1)) I<|BH (α:=Nat × Nat) (fun ⟨P1,Q1⟩=>[(6,vP M1),(7,vP R1),(8,vP U1),(11,.func (.func 64) #[] #[]),(105,.agg ((aa z1)).toArray),(108,.agg ((aa g1)).toArray),(12,vP Q1),(13,vP P1)]) (fun ⟨P1,Q1⟩=>[.cells P1 ae 46,.cells Q1 ae 46,.obj g2 (.deferred (some [])),.cells U1 (([vI G0,vI v0]:La Vc) ++ aa j0 ++ aa g0 ++ aa c0 ++ aa d0) 76,.cells R1 (aa p0) 46,.cells M1 [vI 0,vI 0,vW 0,vW 0,vW 0,vW 0,vW 0,vW 0,vW 0,vW 0,vW 0,vW 0,vW 0,vW 0,vW 0,vW 0,vW 0,vW 0,vW 0,vW 0,vW 0,vW 0,vW 0,vW 0,vW 0,vW 0,vW 0,vW 0,vW 0,vW 0,vW 0,vW 0,vW 0,vW 0,vW 0,vW 0,vW 0,vW 0,vW 0,vW 0,vW 0,vW 0,vW 0,vW 0,vW 0,vW 0,vW 0,vW 0,vW 0,vW 0,vW 0,vW 0,vW 0,vW 0,vW 0,vW 0,vW 0,vW 0,vW 0,vW 0,vW 0,vW 0,vW 0,vW 0,vW 0,vW 0,vW 0,vW 0,vW 0,vW 0,vW 0,vW 0,vW 0,vW 0,vW 0,vW 0,vW 0,vW 0,vW 0,vW 0,vW 0,vW 0,vW 0,vW 0,vW 0,vW 0,vW 0,vW 0,vW 0,vW 0,vW 0,vW 0,vW 0,vW 0,vW 0,vW 0,vW 0,vW 0] 78]) C0 2 255 ?_ ?_
 rintro ⟨P1,Q1⟩ Q07 Z4 M02
 try dsimp only
 refine Bv 8 511 b0 I I .plain (Ax (news:=(aa z1)) Z4 .t1 I I I I I I (ai I)) fun Y05 b5 P02=>Bv 9 1023 b0 I I .plain (Ax (news:=(aa g1)) b5 .hd I I I I I I (ai I)) fun Z05 p1 Q02=>AO (dk b0)<|Ac<|Ae I<|Ab (AC I (p1.memA .t1))<|Ba 18 I<|Ab (Aq (cs:=(aa g0)) I I (ac (p1.memA .t3) 18 16))<|Ab (AC I (p1.memA .hd))<|Ab (AC I (p1.memA .hd))<|xk h (fun q01 F2 h=>?_) (fun j1 F2 h=>?_)
 refine BL (fst:=[]) (cap:=[]) .plain (bd 64) I (e4 I I I I) (fun p q=>bQ_c n (p1.hL0 hL q) z1 g0 g1 g1 F2) fun b06 W7=>?_
 obtain ⟨c5,R02⟩:=p1.agr W7
 refine BT c5 .t2 fun c06 d5 U02=>?_
 obtain ⟨g5,V02⟩:=Am d5 (.a0 (.a0 .d1))
 cases h
 exact AE hp0 func25 ⟨g5.ag,I⟩
 refine Bm (.agg ((aa j1)).toArray) (bd 64) I (e4 I I I I) (fun p q=>AZ (bQ_c n (p1.hL0 hL q) z1 g0 g1 g1 F2)) I<|RG.nl ae p1 fun d06 D00 j5 W02=>AW (aa j1) j5 .hd (ai I) fun g06 P0 X02=>Aa<|Ac<|Ab (AC I (P0.memA .hd))<|Ab (AC I (P0.memA .t5))<|Ab (FV.eqlV (v:=.agg ((aa j1)).toArray) (u:=.agg ((aa p0)).toArray) I I (bG j1 p0))<|BF (fst:=[]) (cap:=[]) (vs:=[.bool (decide (j1 = p0)),vI 7]) .plain (bd 37) func37 I I I I (e2 I I) I fun R00 C8 p9=>Ac<|Ae I<|Aa<|Be I h (fun M3 h=>?_) (fun M3 h=>?_)
 refine Av<|Ae I<|BF (fst:=[]) (cap:=[]) (vs:=[vI 7]) .plain (bd 48) func48 I I I I (e1 I) I fun U00 R04 q9=>Ac<|Ae I<|Ab (FV.neqN (i:=7) (j:=0) I I)<|Aa<|Bg I<|Av<|Ae I<|Ab (AP (vs:=[vI 7]) (u:=.agg #[vI 7]) (e1 I) (fun p=>by kernel_rfl))<|Ab (BO I I)<|RG.panic .plain I<|AE q9 func48<|AE p9 func37<|BT P0 .t3 fun j06 k5 Y02=>?_
 obtain ⟨p5,Z02⟩:=Am k5 (.a0 (.a0 (.a0 .d1)))
 cases h
 exact AE hp0 func25 ⟨p5.ag,I⟩
 refine Az<|MX.fin I<|Au (u:=.tuple #[]) C8 func37 I .nil I<|Aa<|Aj<|du 11 fun M0 W0=>Rx 0 3072 M0 I W0 (AC I (P0.memA .t4))<|Rx 1 3072 M0 I W0 (AC I (P0.memA .hd))<|Rv 2 M0 I W0 (fun _=>Ak I)<|Rx 3 3584 M0 I W0 (AC I (P0.memA .t2))<|Rv 4 M0 I W0 (fun _=>AS 34 I)<|Rx 5 3584 M0 I W0 (Aq (cs:=(aa c0)) I I (ac (P0.memA .t4) 34 16))<|Rx 6 3584 M0 I W0 (AC I (P0.memA .t1))<|Rv 7 M0 I W0 (fun _=>AS 2 I)<|Rx 8 3584 M0 I W0 (Aq (cs:=(aa j0)) I I (ac (P0.memA .t4) 2 16))<|xk h (fun s01 G2 h=>?_) (fun K1 G2 h=>?_)
 refine AT (i:=9) (rk M0) (BC (fst:=[]) (cap:=[]) I .plain (bd 64) I (e4 I I I I) (fun p q=>bQ_c n (P0.hL0 hL q) z1 c0 g1 j0 G2) (fun k06 X7=>?_))
 obtain ⟨q5,b03⟩:=P0.agr X7
 refine BT q5 .t3 fun p06 s5 c03=>?_
 obtain ⟨u5,d03⟩:=Am s5 (.a0 (.a0 (.a0 .d1)))
 cases h
 exact AE hp0 func25 ⟨u5.ag,I⟩
 refine BQ 9 1023 3072 (.agg ((aa K1)).toArray) M0 I W0 (bd 64) I (e4 I I I I) (fun p q=>AZ (bQ_c n (P0.hL0 hL q) z1 c0 g1 j0 G2)) I<|Rv 10 M0 I W0 (fun _=>AP (vs:=[.agg ((([vI G0,vI v0]:La Vc) ++ aa j0 ++ aa g0 ++ aa c0 ++ aa d0)).toArray,.agg ((aa j1)).toArray,.agg ((aa K1)).toArray]) (u:=.agg ((([vI G0,vI v0]:La Vc) ++ aa j0 ++ aa g0 ++ aa c0 ++ aa d0 ++ aa j1 ++ aa K1)).toArray) (e3 I I I) (fun p=>by kernel_rfl))<|Bv 11 4095 M0 I I .plain (Ax (news:=(([vI G0,vI v0]:La Vc) ++ aa j0 ++ aa g0 ++ aa c0 ++ aa d0 ++ aa j1 ++ aa K1)) P0 .t6 I I I I I I (ai I)) fun q06 v5 g03=>AO (dk M0)<|Ao I<|RT.take v5 .t3 fun s06 x5 j03=>?_
 obtain ⟨z3,k03⟩:=Am x5 (.a0 (.a0 (.a0 .d1)))
 refine Au hb0 func25 I (.cons (.many (cs:=(([vI G0,vI v0]:La Vc) ++ aa j0 ++ aa g0 ++ aa c0 ++ aa d0 ++ aa j1 ++ aa K1)) I I (z3.memA .t5)) .nil) I ?_
 cases h
 exact ⟨z3.ag,fun p q=>aD I⟩
 intro s3
 refine AM [6,7] (rk b0) ⟨?_,?_,trivial⟩
 refine Bf (m' :=127) (sk b0) I .plain I (Al ae C0) fun Z9 j2 v2 C2=>Ca 7 255 b0 I .plain I (Al ae v2) fun b00 k2 x2 D2=>?_
 obtain ⟨y5,k7⟩:=Am x2 (.a0 (.a0 (.a0 (.a1 (.a1 (.a1 .done))))))
 exact s3 (k2,j2) y5 (Tt C2 (Tt D2 k7))
 refine Bf (m' :=191) (sk b0) I .plain I (Al ae C0) fun b00 k2 x2 D2=>Ca 6 255 b0 I .plain I (Al ae x2) fun Z9 j2 v2 C2=>?_
 obtain ⟨z5,p7⟩:=Am v2 (.a1 (.a0 (.a0 (.a1 (.a1 (.a1 .done))))))
 exact s3 (k2,j2) z5 (Tt D2 (Tt C2 p7))
 refine Av<|Ae I<|Ab (AP (vs:=[vI J1]) (u:=.agg #[vI J1]) (e1 I) (fun p=>by kernel_rfl))<|Ab (BO I I)<|RG.panic .plain I<|AE k9 func48 ?_
 cases h
 exact AE hp0 func25 ⟨I0.ag,I⟩
def cd_p (n:Nat) (a0:Tg) (a1:Tg):Oa Tg:=
  (aH_p n a0.fC a1.fA).bind fun b0=>(aH_p n a0.fA a1.fC).bind fun c0=>(bU_p n b0 c0).bind fun d0=>some d0
theorem cd_c (n:Nat) {L w} (hL:hl L w) (a0:Tg) {v0_1:Vc} (h0_1:Rep.R w L [v0_1] a0.fC.fu) {v0_3:Vc} (h0_3:Rep.R w L [v0_3] a0.fA.fu) (a1:Tg) {v1_1:Vc} (h1_1:Rep.R w L [v1_1] a1.fC.fu) {v1_3:Vc} (h1_3:Rep.R w L [v1_3] a1.fA.fu)  {r:Tg} (h:cd_p n a0 a1 = some r) :
 Cl 100 #[.agg #[.bool a0.fC.fh,v0_1,.bool a0.fA.fh,v0_3],.agg #[.bool a1.fC.fh,v1_1,.bool a1.fA.fh,v1_3]] w (aj w fun w' u=>∃ v0_1 v0_3:Vc,u = .agg #[.bool r.fC.fh,v0_1,.bool r.fA.fh,v0_3]/\Rep.R w' L [v0_1] r.fC.fu/\Rep.R w' L [v0_3] r.fA.fu):=by
 unfold cd_p at h
 refine AK func100 I I I fun _ cs0 hb0=>Ac<|RG.bx (AD w) I I fun g1 M0 x0 R0=>RG.bx x0 I I fun j1 P0 y0 U0=>RG.nl [.bool false,vN,.bool false,vN] y0 fun k1 Q0 c0 V0=>Aa<|Aj<|du 11 fun b0 d0=>Rv 0 b0 I d0 (fun _=>AS 0 I)<|Rx 1 3600 b0 I d0 (Aq (cs:=[.bool a0.fC.fh,v0_1]) I I (ac (c0.memA .t2) 0 2))<|Rv 2 b0 I d0 (fun _=>AS 2 I)<|Rx 3 3600 b0 I d0 (Aq (cs:=[.bool a1.fA.fh,v1_3]) I I (ac (c0.memA .t1) 2 2))<|Rv 5 b0 I d0 (fun _=>AS 2 I)<|Rx 6 3584 b0 I d0 (Aq (cs:=[.bool a0.fA.fh,v0_3]) I I (ac (c0.memA .t2) 2 2))<|Rv 7 b0 I d0 (fun _=>AS 0 I)<|Rx 8 3584 b0 I d0 (Aq (cs:=[.bool a1.fC.fh,v1_1]) I I (ac (c0.memA .t1) 0 2))<|bk h fun J0 G0 h=>Bp 4 511 b0 I .plain (bd 123) I (e2 I I) (fun p q=>aH_c n (c0.hL hL q) a0.fC (c0.km h0_1 q) a1.fA (c0.km h1_3 q) G0) I fun p1 b1 B0 ⟨Y0,hu_,E0⟩=>?_
 subst hu_
 obtain ⟨g0,W0⟩:=c0.agr B0
 refine bk h fun K0 H0 h=>Bp 9 1023 b0 I .plain (bd 123) I (e2 I I) (fun p q=>aH_c n (g0.hL hL q) a0.fA (g0.km h0_3 q) a1.fC (g0.km h1_1 q) H0) I fun q1 c1 C0 ⟨Z0,hu_,F0⟩=>?_
 subst hu_
 obtain ⟨s0,A0⟩:=g0.agr C0
 refine bk h fun k0 I0 h=>Bp 10 2047 b0 I .plain (bd 118) I (e2 I I) (fun p q=>bU_c n (s0.hL hL q) J0 (Ar (Ap E0 A0) q) K0 (Ar F0 q) I0) I fun s1 d1 D0 ⟨p0,q0,hu_,u0,v0⟩=>?_
 subst hu_
 obtain ⟨z0,X0⟩:=s0.agr D0
 refine Bv 11 4095 b0 I I .plain (Ax (news:=[.bool k0.fC.fh,p0,.bool k0.fA.fh,q0]) z0 .hd I I I I I I (o4 I (AX u0) I (AX v0))) fun u1 j0 t0=>AO (dk b0)<|Ao I<|Au hb0 func100 I (.cons (.many (cs:=[.bool k0.fC.fh,p0,.bool k0.fA.fh,q0]) I I (j0.memA .hd)) .nil) I ?_
 cases h
 exact ⟨j0.ag,fun p q=>⟨p0,q0,I,j0.kd (Ap u0 t0) q,j0.kd (Ap v0 t0) q⟩⟩
def dC_p (n:Nat) (a0:Ta) (a1:Ta):Oa (Ta × Int):=
  (aV_p n ([a0,a1]:La Ta)).bind fun s0=>(if s0 = true then (if a1.fN = (0,0,0,0,0,0,0,0) then some ((⟨(0,0,0,0,0,0,0,0),(0,0,0,0,0,0,0,0)⟩:Ta),(7:Int)) else (aV_p n ([a0,a1]:La Ta)).bind fun t0=>(if t0 = true then (aM_p n a0).bind fun u0=>(aM_p n a1).bind fun v0=>(cd_p n u0 v0).bind fun x0=>(aY_p n x0 (0:Int)).bind fun b0=>some (b0.1,b0.2) else (aY_p n (⟨(⟨false,([]:La Ua)⟩:Th),(⟨false,([]:La Ua)⟩:Th)⟩:Tg) (20:Int)).bind fun c0=>some (c0.1,c0.2))) else (aV_p n ([a0,a1]:La Ta)).bind fun j0=>(if j0 = true then (aM_p n a0).bind fun k0=>(aM_p n a1).bind fun p0=>(cd_p n k0 p0).bind fun q0=>(aY_p n q0 (0:Int)).bind fun d0=>some (d0.1,d0.2) else (aY_p n (⟨(⟨false,([]:La Ua)⟩:Th),(⟨false,([]:La Ua)⟩:Th)⟩:Tg) (20:Int)).bind fun g0=>some (g0.1,g0.2)))
theorem dC_c (n:Nat) {L w} (hL:hl L w) (a0:Ta) (a1:Ta)  {r:Ta × Int} (h:dC_p n a0 a1 = some r) :
 Cl 65 #[.agg ((aa a0)).toArray,.agg ((aa a1)).toArray] w (aj w fun _ u=>u = .tuple #[.agg ((aa r.1)).toArray,vI r.2]):=by
 unfold dC_p at h
 refine AK func65 I I I fun _ cs0 hb0=>Ac<|RG.bx (AD w) I I fun t4 K2 z1 q3=>RG.bx z1 I I fun D4 P2 C1 y3=>RG.nl ae C1 fun K4 R2 D0 D3=>Ag I<|Aa<|Aj<|Ac<|Ab (AC I (D0.memA .t2))<|Ab (AC I (D0.memA .t1))<|Ah .plain I (AU (α:=Ta) (xs:=([a0,a1]:La Ta)) (vs:=[.agg ((aa a0)).toArray,.agg ((aa a1)).toArray]) (ds' :=(aa a0 ++ aa a1)) I D0 eQ I (e2 I I) (by kernel_rfl) I) fun M4 U2 b0 E3=>bk h fun C2 s2 h=>Bm (.bool C2) (bd 99) I (e1 I) (fun p q=>aV_c n (b0.hL0 hL q) (Ar (St.lend (α:=Ta) (L:=L) b0 .hd (AJ (cs:=(aa a0 ++ aa a1)) (xs:=(([a0,a1]:La Ta):La Ta)) b0 L (AB (cs:=(aa a0)) (ds:=(aa a1)) (bD a0.fN a0.fD) (AB (cs:=(aa a1)) (ds:=[]) (bD a1.fN a1.fD) (AR _ _)))) hL) q) s2) I<|Ae I<|RG.ifb (s:=10) I h (fun v1 h=>?_) (fun v1 h=>?_)
 refine RG.fg 0 I<|AH (Aq (cs:=(am a1.fN)) I I (ac (b0.memA .t2) 0 8))<|AH (AP (vs:=[]) (u:=.agg zQ) ak (fun p=>by kernel_rfl))<|AH (FV.eqlV (v:=.agg ((am a1.fN)).toArray) (u:=.agg zQ) I I (kM a1.fN (0,0,0,0,0,0,0,0)))<|Bq I I<|Aa<|Be I h (fun x1 h=>?_) (fun x1 h=>?_)
 refine Ac<|Ab (AP (vs:=[]) (u:=.agg zM) ak (fun p=>by kernel_rfl))<|AW ae b0 .t1 (ai I) fun P4 W0 F3=>Ag I<|Aa<|Ao I<|Au hb0 func65 I (.cons (.many (cs:=ae) I I (W0.memA .t1)) (.cons (.tmp I) .nil)) I ?_
 cases h
 exact W0.gv
 refine Az<|Ac<|Ab (AC I (b0.memA .t3))<|Ab (AC I (b0.memA .t2))<|BF (fst:=[]) (cap:=[]) (vs:=[.agg ((aa a0)).toArray,.agg ((aa a1)).toArray,.func (.func 100) #[] #[]]) .plain (bd 91) func91 I I I I (e3 I I I) I fun b3 j1 Q3=>Ac<|RG.bx b0 I I fun Q4 V2 E1 G3=>RG.bx E1 I I fun R4 W2 F1 H3=>RG.nl [.bool false,vN,.bool false,vN] F1 fun U4 X2 E0 I3=>Ag I<|Aa<|Aj<|Ac<|Ab (AC I (E0.memA .t2))<|Ab (AC I (E0.memA .t1))<|Ah .plain I (AU (α:=Ta) (xs:=([a0,a1]:La Ta)) (vs:=[.agg ((aa a0)).toArray,.agg ((aa a1)).toArray]) (ds' :=(aa a0 ++ aa a1)) I E0 eQ I (e2 I I) (by kernel_rfl) I) fun V4 Y2 j0 J3=>bk h fun D2 u2 h=>Bm (.bool D2) (bd 99) I (e1 I) (fun p q=>aV_c n (j0.hL0 hL q) (Ar (St.lend (α:=Ta) (L:=L) j0 .hd (AJ (cs:=(aa a0 ++ aa a1)) (xs:=(([a0,a1]:La Ta):La Ta)) j0 L (AB (cs:=(aa a0)) (ds:=(aa a1)) (bD a0.fN a0.fD) (AB (cs:=(aa a1)) (ds:=[]) (bD a1.fN a1.fD) (AR _ _)))) hL) q) u2) I<|Ab (Bz I)<|Aa<|MX.ifnb I h (fun y1 h=>?_) (fun y1 h=>?_)
 refine Az<|Aj<|du 6 fun d0 u0=>Rv 0 d0 I u0 (fun _=>Ak I)<|Rx 1 244 d0 I u0 (AC I (j0.memA .t3))<|Rx 3 240 d0 I u0 (AC I (j0.memA .t2))<|bk h fun E2 v2 h=>Bp 2 15 d0 I .plain (bd 84) I (e1 I) (fun p q=>aM_c n (j0.hL hL q) a0 v2) I fun W4 j4 K1 ⟨X3,Y3,hu_,W1,X1⟩=>?_
 subst hu_
 obtain ⟨X0,K3⟩:=j0.agr K1
 refine bk h fun F2 x2 h=>Bp 4 31 d0 I .plain (bd 84) I (e1 I) (fun p q=>aM_c n (X0.hL hL q) a1 x2) I fun X4 k4 M1 ⟨Z3,b4,hu_,Y1,Z1⟩=>?_
 subst hu_
 obtain ⟨Y0,c1⟩:=X0.agr M1
 refine bk h fun p0 y2 h=>Bp 5 63 d0 I .plain (bd 100) I (e2 I I) (fun p q=>cd_c n (Y0.hL hL q) E2 (Ar (Ap W1 c1) q) (Ar (Ap X1 c1) q) F2 (Ar Y1 q) (Ar Z1 q) y2) I fun Y4 p4 P1 ⟨H0,I0,hu_,q1,s1⟩=>?_
 subst hu_
 obtain ⟨G1,M3⟩:=Y0.agr P1
 refine Bv 6 127 d0 I I .plain (Ax (news:=[.bool p0.fC.fh,H0,.bool p0.fA.fh,I0]) G1 .t1 I I I I I I (o4 I (AX q1) I (AX s1))) fun Z4 s0 d1=>Rv 7 d0 I u0 (fun _=>Bn I)<|AO (dk d0)<|Ao I<|Au (u:=.tuple #[.agg #[.bool p0.fC.fh,H0,.bool p0.fA.fh,I0],vI 0]) j1 func91 I (.cons (.many (cs:=[.bool p0.fC.fh,H0,.bool p0.fA.fh,I0]) I I (s0.memA .t1)) (.cons (.tmp I) .nil)) I<|Ab (Ai I I)<|Ab (Ai I I)<|bk h fun v0 b2 h=>Bm (.tuple #[.agg ((aa v0.1)).toArray,vI v0.2]) (bd 90) I (e2 I I) (fun p q=>aY_c n (s0.hL0 hL q) p0 (s0.kd (Ap q1 d1) q) (s0.kd (Ap s1 d1) q) b2) I<|Ab (Ai I I)<|Ab (Ai I I)<|AW (aa v0.1) s0 .t5 (ai I) fun q4 J0 c3=>Ag I<|Aa<|Ao I<|Au hb0 func65 I (.cons (.many (cs:=(aa v0.1)) I I (J0.memA .t5)) (.cons (.tmp I) .nil)) I ?_
 cases h
 exact J0.gv
 refine Ac<|RG.nl [.bool false,vN,.bool false,vN] j0 fun s4 G2 K0 d3=>Aa<|Ac<|Ab (AC I (K0.memA .hd))<|AW [.bool false,vN,.bool false,vN] K0 .t2 (ai I) fun u4 A0 g3=>Ag I<|Aa<|Ao I<|Au (u:=.tuple #[.agg #[.bool false,vN,.bool false,vN],vI 20]) j1 func91 I (.cons (.many (cs:=[.bool false,vN,.bool false,vN]) I I (A0.memA .t2)) (.cons (.tmp I) .nil)) I<|Ab (Ai I I)<|Ab (Ai I I)<|bk h fun x0 c2 h=>Bm (.tuple #[.agg ((aa x0.1)).toArray,vI x0.2]) (bd 90) I (e2 I I) (fun p q=>aY_c n (A0.hL0 hL q) (⟨(⟨false,([]:La Ua)⟩:Th),(⟨false,([]:La Ua)⟩:Th)⟩:Tg) (Ar (Rep.nilSlice _ _) q) (Ar (Rep.nilSlice _ _) q) c2) I<|Ab (Ai I I)<|Ab (Ai I I)<|AW (aa x0.1) A0 .t6 (ai I) fun v4 M0 j3=>Ag I<|Aa<|Ao I<|Au hb0 func65 I (.cons (.many (cs:=(aa x0.1)) I I (M0.memA .t6)) (.cons (.tmp I) .nil)) I ?_
 cases h
 exact M0.gv
 refine Aw<|Aw<|Aw<|Aw<|By I I<|Aa<|BP I<|Az<|Ac<|Ab (AC I (b0.memA .t3))<|Ab (AC I (b0.memA .t2))<|BF (fst:=[]) (cap:=[]) (vs:=[.agg ((aa a0)).toArray,.agg ((aa a1)).toArray,.func (.func 100) #[] #[]]) .plain (bd 91) func91 I I I I (e3 I I I) I fun Z2 g1 P3=>Ac<|RG.bx b0 I I fun x4 H2 A1 k3=>RG.bx A1 I I fun y4 I2 B1 p3=>RG.nl [.bool false,vN,.bool false,vN] B1 fun z4 J2 B0 s3=>Ag I<|Aa<|Aj<|Ac<|Ab (AC I (B0.memA .t2))<|Ab (AC I (B0.memA .t1))<|Ah .plain I (AU (α:=Ta) (xs:=([a0,a1]:La Ta)) (vs:=[.agg ((aa a0)).toArray,.agg ((aa a1)).toArray]) (ds' :=(aa a0 ++ aa a1)) I B0 eQ I (e2 I I) (by kernel_rfl) I) fun A4 M2 g0 u3=>bk h fun z2 d2 h=>Bm (.bool z2) (bd 99) I (e1 I) (fun p q=>aV_c n (g0.hL0 hL q) (Ar (St.lend (α:=Ta) (L:=L) g0 .hd (AJ (cs:=(aa a0 ++ aa a1)) (xs:=(([a0,a1]:La Ta):La Ta)) g0 L (AB (cs:=(aa a0)) (ds:=(aa a1)) (bD a0.fN a0.fD) (AB (cs:=(aa a1)) (ds:=[]) (bD a1.fN a1.fD) (AR _ _)))) hL) q) d2) I<|Ab (Bz I)<|Aa<|MX.ifnb I h (fun u1 h=>?_) (fun u1 h=>?_)
 refine Az<|Aj<|du 6 fun c0 t0=>Rv 0 c0 I t0 (fun _=>Ak I)<|Rx 1 244 c0 I t0 (AC I (g0.memA .t3))<|Rx 3 240 c0 I t0 (AC I (g0.memA .t2))<|bk h fun A2 g2 h=>Bp 2 15 c0 I .plain (bd 84) I (e1 I) (fun p q=>aM_c n (g0.hL hL q) a0 g2) I fun B4 c4 H1 ⟨R3,U3,hu_,Q1,R1⟩=>?_
 subst hu_
 obtain ⟨P0,v3⟩:=g0.agr H1
 refine bk h fun B2 j2 h=>Bp 4 31 c0 I .plain (bd 84) I (e1 I) (fun p q=>aM_c n (P0.hL hL q) a1 j2) I fun C4 d4 I1 ⟨V3,W3,hu_,U1,V1⟩=>?_
 subst hu_
 obtain ⟨Q0,Z0⟩:=P0.agr I1
 refine bk h fun k0 k2 h=>Bp 5 63 c0 I .plain (bd 100) I (e2 I I) (fun p q=>cd_c n (Q0.hL hL q) A2 (Ar (Ap Q1 Z0) q) (Ar (Ap R1 Z0) q) B2 (Ar U1 q) (Ar V1 q) k2) I fun E4 g4 J1 ⟨F0,G0,hu_,k1,p1⟩=>?_
 subst hu_
 obtain ⟨D1,x3⟩:=Q0.agr J1
 refine Bv 6 127 c0 I I .plain (Ax (news:=[.bool k0.fC.fh,F0,.bool k0.fA.fh,G0]) D1 .t1 I I I I I I (o4 I (AX k1) I (AX p1))) fun F4 q0 b1=>Rv 7 c0 I t0 (fun _=>Bn I)<|AO (dk c0)<|Ao I<|Au (u:=.tuple #[.agg #[.bool k0.fC.fh,F0,.bool k0.fA.fh,G0],vI 0]) g1 func91 I (.cons (.many (cs:=[.bool k0.fC.fh,F0,.bool k0.fA.fh,G0]) I I (q0.memA .t1)) (.cons (.tmp I) .nil)) I<|Ab (Ai I I)<|Ab (Ai I I)<|bk h fun y0 p2 h=>Bm (.tuple #[.agg ((aa y0.1)).toArray,vI y0.2]) (bd 90) I (e2 I I) (fun p q=>aY_c n (q0.hL0 hL q) k0 (q0.kd (Ap k1 b1) q) (q0.kd (Ap p1 b1) q) p2) I<|Ab (Ai I I)<|Ab (Ai I I)<|AW (aa y0.1) q0 .t5 (ai I) fun G4 R0 z3=>Ag I<|Aa<|Ao I<|Au hb0 func65 I (.cons (.many (cs:=(aa y0.1)) I I (R0.memA .t5)) (.cons (.tmp I) .nil)) I ?_
 cases h
 exact R0.gv
 refine Ac<|RG.nl [.bool false,vN,.bool false,vN] g0 fun H4 Q2 U0 A3=>Aa<|Ac<|Ab (AC I (U0.memA .hd))<|AW [.bool false,vN,.bool false,vN] U0 .t2 (ai I) fun I4 C0 B3=>Ag I<|Aa<|Ao I<|Au (u:=.tuple #[.agg #[.bool false,vN,.bool false,vN],vI 20]) g1 func91 I (.cons (.many (cs:=[.bool false,vN,.bool false,vN]) I I (C0.memA .t2)) (.cons (.tmp I) .nil)) I<|Ab (Ai I I)<|Ab (Ai I I)<|bk h fun z0 q2 h=>Bm (.tuple #[.agg ((aa z0.1)).toArray,vI z0.2]) (bd 90) I (e2 I I) (fun p q=>aY_c n (C0.hL0 hL q) (⟨(⟨false,([]:La Ua)⟩:Th),(⟨false,([]:La Ua)⟩:Th)⟩:Tg) (Ar (Rep.nilSlice _ _) q) (Ar (Rep.nilSlice _ _) q) q2) I<|Ab (Ai I I)<|Ab (Ai I I)<|AW (aa z0.1) C0 .t6 (ai I) fun J4 V0 C3=>Ag I<|Aa<|Ao I<|Au hb0 func65 I (.cons (.many (cs:=(aa z0.1)) I I (V0.memA .t6)) (.cons (.tmp I) .nil)) I ?_
 cases h
 exact V0.gv
def bp_p (n:Nat) (a0:Ta) (a1:Ta):Oa (Except Tc Ta):=
  (dC_p n a0 a1).bind fun b0=>(al_p n b0.1 b0.2).bind fun d0=>exc d0 (fun g0=>some (.ok g0)) (fun c0=>some (.error c0))
theorem bp_c (n:Nat) {L w} (hL:hl L w) (a0:Ta) (a1:Ta)  {r:Except Tc Ta} (h:bp_p n a0 a1 = some r) :
 Cl 26 #[.agg ((aa a0)).toArray,.agg ((aa a1)).toArray] w (aK w (fun (y:Ta) _ u=>u = .agg ((aa y)).toArray) (fun e=>.iface 115 (.agg #[vI e.fE])) r):=by
 unfold bp_p at h
 refine BV func26 I I I fun _ cs0 hb0 hp0=>Ac<|RG.bx (AD w) I I fun E0 u0 k0 z0=>RG.bx k0 I I fun F0 v0 p0 A0=>RG.nl ae p0 fun G0 x0 b0 B0=>Aa<|Ac<|Ab (AC I (b0.memA .t2))<|Ab (AC I (b0.memA .t1))<|bk h fun c0 t0 h=>Bm (.tuple #[.agg ((aa c0.1)).toArray,vI c0.2]) (bd 65) I (e2 I I) (fun p q=>dC_c n (b0.hL0 hL q) a0 a1 t0) I<|Ab (Ai I I)<|Ab (Ai I I)<|xk h (fun y0 d0 h=>?_) (fun g0 d0 h=>?_)
 refine BL (fst:=[]) (cap:=[]) .plain (bd 56) I (e2 I I) (fun p q=>al_c n (b0.hL0 hL q) c0.1 d0) fun H0 s0=>?_
 obtain ⟨q0,C0⟩:=b0.agr s0
 cases h
 exact AE hp0 func26 ⟨q0.ag,I⟩
 refine Bm (.agg ((aa g0)).toArray) (bd 56) I (e2 I I) (fun p q=>AZ (al_c n (b0.hL0 hL q) c0.1 d0)) I<|AW (aa g0) b0 .hd (ai I) fun I0 j0 D0=>Aa<|Ao I<|Au hb0 func26 I (.cons (.many (cs:=(aa g0)) I I (j0.memA .hd)) .nil) I ?_
 cases h
 exact ⟨j0.ag,fun p q=>aD I⟩
def cP_p (n:Nat) (a0:Te) (a1:Int) (a2:Int):Oa (Except Tc Ttold):=
  (av_p n a0 a1 a2).bind fun t0=>exc t0 (fun b0=>(bp_p n b0.fn b0.fd).bind fun u0=>exc u0 (fun c0=>(ah_p n b0.fG.fx (1:Int)).bind fun v0=>exc v0 (fun x0=>(ao_p n c0 x0).bind fun y0=>exc y0 (fun z0=>(bt_p n b0.fG.fy z0).bind fun A0=>exc A0 (fun B0=>(ah_p n b0.fG.fw (1:Int)).bind fun C0=>exc C0 (fun D0=>(bp_p n B0 D0).bind fun E0=>exc E0 (fun F0=>some (.ok (⟨c0,F0⟩:Ttold))) (fun s0=>some (.error s0))) (fun q0=>some (.error q0))) (fun p0=>some (.error p0))) (fun k0=>some (.error k0))) (fun j0=>some (.error j0))) (fun g0=>some (.error g0))) (fun d0=>some (.error d0))
theorem cP_c (n:Nat) {L w} (hL:hl L w) (a0:Te) {v0_3:Vc} (h0_3:Rep.R w L [v0_3] a0.fv) {p0:Nat} (m0:∀ j9 v9,([vI a0.fl,vI a0.fj,vI a0.fm,v0_3]:La Vc)[j9]? = some v9 -> w.cell? ((⟨p0,0,none⟩:Addr).add j9) = some v9) {a1:Int} {p1:Nat} (m1:∀ j9 v9,([vI a1]:La Vc)[j9]? = some v9 -> w.cell? ((⟨p1,0,none⟩:Addr).add j9) = some v9) {a2:Int} {p2:Nat} (m2:∀ j9 v9,([vI a2]:La Vc)[j9]? = some v9 -> w.cell? ((⟨p2,0,none⟩:Addr).add j9) = some v9)  {r:Except Tc Ttold} (h:cP_p n a0 a1 a2 = some r) :
 Cl 24 #[.pointer (some ⟨p0,0,none⟩),.pointer (some ⟨p1,0,none⟩),.pointer (some ⟨p2,0,none⟩)] w (aK w (fun (y:Ttold) _ u=>u = .agg ((cB y)).toArray) (fun e=>.iface 115 (.agg #[vI e.fE])) r):=by
 unfold cP_p at h
 refine BV func24 I I I fun _ cs0 hb0 hp0=>Ac<|RG.nl ap (AD w) fun P1 d1 j0 z1=>Aa<|Ac<|Ab (AC I (fun j9 v9 h9=>j0.ag.cell0 (m0 j9 v9 h9)))<|AY I ((fun j9 v9 h9=>j0.ag.cell0 (m1 j9 v9 h9)) 0 _ I)<|AY I ((fun j9 v9 h9=>j0.ag.cell0 (m2 j9 v9 h9)) 0 _ I)<|xk h (fun k1 u0 h=>?_) (fun d0 u0 h=>?_)
 refine BL (fst:=[]) (cap:=[]) .plain (bd 25) I (e3 I I I) (fun p q=>av_c n (j0.hL0 hL q) a0 (j0.k0 h0_3 q) u0) fun Q1 V0=>?_
 obtain ⟨H0,A1⟩:=j0.agr V0
 cases h
 exact AE hp0 func24 ⟨H0.ag,I⟩
 refine Bm (.agg ((([vI d0.fG.fw,vI d0.fG.fx]:La Vc) ++ aa d0.fG.fy ++ aa d0.fG.fa ++ aa d0.fG.fb ++ aa d0.fG.fc ++ aa d0.fd ++ aa d0.fn)).toArray) (bd 25) I (e3 I I I) (fun p q=>AZ (av_c n (j0.hL0 hL q) a0 (j0.k0 h0_3 q) u0)) I<|RG.nl [vI 0,vI 0,vW 0,vW 0,vW 0,vW 0,vW 0,vW 0,vW 0,vW 0,vW 0,vW 0,vW 0,vW 0,vW 0,vW 0,vW 0,vW 0,vW 0,vW 0,vW 0,vW 0,vW 0,vW 0,vW 0,vW 0,vW 0,vW 0,vW 0,vW 0,vW 0,vW 0,vW 0,vW 0,vW 0,vW 0,vW 0,vW 0,vW 0,vW 0,vW 0,vW 0,vW 0,vW 0,vW 0,vW 0,vW 0,vW 0,vW 0,vW 0,vW 0,vW 0,vW 0,vW 0,vW 0,vW 0,vW 0,vW 0,vW 0,vW 0,vW 0,vW 0,vW 0,vW 0,vW 0,vW 0,vW 0,vW 0,vW 0,vW 0,vW 0,vW 0,vW 0,vW 0,vW 0,vW 0,vW 0,vW 0,vW 0,vW 0,vW 0,vW 0,vW 0,vW 0,vW 0,vW 0,vW 0,vW 0,vW 0,vW 0,vW 0,vW 0,vW 0,vW 0,vW 0,vW 0,vW 0,vW 0] j0 fun R1 g1 I0 B1=>AW (([vI d0.fG.fw,vI d0.fG.fx]:La Vc) ++ aa d0.fG.fy ++ aa d0.fG.fa ++ aa d0.fG.fb ++ aa d0.fG.fc ++ aa d0.fd ++ aa d0.fn) I0 .hd (ai I) fun U1 s0 C1=>Aa<|Ac<|Ba 82 I<|Ab (Aq (cs:=(aa d0.fn)) I I (ac (s0.memA .hd) 82 16))<|Ba 66 I<|Ab (Aq (cs:=(aa d0.fd)) I I (ac (s0.memA .hd) 66 16))<|xk h (fun q1 v0 h=>?_) (fun q0 v0 h=>?_)
 refine BL (fst:=[]) (cap:=[]) .plain (bd 26) I (e2 I I) (fun p q=>bp_c n (s0.hL0 hL q) d0.fn d0.fd v0) fun V1 W0=>?_
 obtain ⟨J0,D1⟩:=s0.agr W0
 cases h
 exact AE hp0 func24 ⟨J0.ag,I⟩
 refine Bm (.agg ((aa q0)).toArray) (bd 26) I (e2 I I) (fun p q=>AZ (bp_c n (s0.hL0 hL q) d0.fn d0.fd v0)) I<|RG.nl ae s0 fun W1 j1 K0 E1=>AW (aa q0) K0 .hd (ai I) fun X1 g0 F1=>Aa<|Aj<|du 17 fun b0 c0=>Rx 0 196608 b0 I c0 (AC I (g0.memA .hd))<|Rv 1 b0 I c0 (fun _=>AS 0 I)<|Rv 2 b0 I c0 (fun _=>AS 2 I)<|Rx 3 246784 b0 I c0 (Aq (cs:=(aa d0.fG.fy)) I I (ac (aT (g0.memA .t1) 0) 2 16))<|Rx 4 247296 b0 I c0 (AC I (g0.memA .hd))<|Rv 5 b0 I c0 (fun _=>AS 0 I)<|Rv 6 b0 I c0 (fun _=>AS 1 I)<|Rx 7 247552 b0 I c0 (AN I ((aT (g0.memA .t1) 0) 1 _ I))<|xk h (fun s1 x0 h=>?_) (fun C0 x0 h=>?_)
 refine Rv 11 b0 I c0 (fun _=>AS 0 I)<|Rv 12 b0 I c0 (fun _=>AS 0 I)<|Rx 13 245760 b0 I c0 (AN I ((aT (g0.memA .t1) 0) 0 _ I))<|AT (i:=8) (rk b0) (BC (fst:=[]) (cap:=[]) I .plain (bd 29) I (e2 I I) (fun p q=>ah_c n (g0.hL0 hL q)  x0) (fun Y1 X0=>?_))
 obtain ⟨M0,G1⟩:=g0.agr X0
 cases h
 exact AE hp0 func24 ⟨M0.ag,I⟩
 refine BQ 8 511 247296 (.agg ((aa C0)).toArray) b0 I c0 (bd 29) I (e2 I I) (fun p q=>AZ (ah_c n (g0.hL0 hL q)  x0)) I<|xk h (fun u1 y0 h=>?_) (fun D0 y0 h=>?_)
 refine Rv 11 b0 I c0 (fun _=>AS 0 I)<|Rv 12 b0 I c0 (fun _=>AS 0 I)<|Rx 13 245760 b0 I c0 (AN I ((aT (g0.memA .t1) 0) 0 _ I))<|AT (i:=9) (rk b0) (BC (fst:=[]) (cap:=[]) I .plain (bd 28) I (e2 I I) (fun p q=>ao_c n (g0.hL0 hL q) q0 C0 y0) (fun Z1 Y0=>?_))
 obtain ⟨P0,H1⟩:=g0.agr Y0
 cases h
 exact AE hp0 func24 ⟨P0.ag,I⟩
 refine BQ 9 1023 246784 (.agg ((aa D0)).toArray) b0 I c0 (bd 28) I (e2 I I) (fun p q=>AZ (ao_c n (g0.hL0 hL q) q0 C0 y0)) I<|xk h (fun v1 z0 h=>?_) (fun E0 z0 h=>?_)
 refine Rv 11 b0 I c0 (fun _=>AS 0 I)<|Rv 12 b0 I c0 (fun _=>AS 0 I)<|Rx 13 245760 b0 I c0 (AN I ((aT (g0.memA .t1) 0) 0 _ I))<|AT (i:=10) (rk b0) (BC (fst:=[]) (cap:=[]) I .plain (bd 27) I (e2 I I) (fun p q=>bt_c n (g0.hL0 hL q) d0.fG.fy D0 z0) (fun b2 Z0=>?_))
 obtain ⟨Q0,I1⟩:=g0.agr Z0
 cases h
 exact AE hp0 func24 ⟨Q0.ag,I⟩
 refine BQ 10 2047 245760 (.agg ((aa E0)).toArray) b0 I c0 (bd 27) I (e2 I I) (fun p q=>AZ (bt_c n (g0.hL0 hL q) d0.fG.fy D0 z0)) I<|Rv 11 b0 I c0 (fun _=>AS 0 I)<|Rv 12 b0 I c0 (fun _=>AS 0 I)<|Rx 13 245760 b0 I c0 (AN I ((aT (g0.memA .t1) 0) 0 _ I))<|xk h (fun x1 A0 h=>?_) (fun F0 A0 h=>?_)
 refine AT (i:=14) (rk b0) (BC (fst:=[]) (cap:=[]) I .plain (bd 29) I (e2 I I) (fun p q=>ah_c n (g0.hL0 hL q)  A0) (fun c2 b1=>?_))
 obtain ⟨R0,J1⟩:=g0.agr b1
 cases h
 exact AE hp0 func24 ⟨R0.ag,I⟩
 refine BQ 14 32767 229376 (.agg ((aa F0)).toArray) b0 I c0 (bd 29) I (e2 I I) (fun p q=>AZ (ah_c n (g0.hL0 hL q)  A0)) I<|xk h (fun y1 B0 h=>?_) (fun t0 B0 h=>?_)
 refine AT (i:=15) (rk b0) (BC (fst:=[]) (cap:=[]) I .plain (bd 26) I (e2 I I) (fun p q=>bp_c n (g0.hL0 hL q) E0 F0 B0) (fun d2 c1=>?_))
 obtain ⟨U0,K1⟩:=g0.agr c1
 cases h
 exact AE hp0 func24 ⟨U0.ag,I⟩
 refine BQ 15 65535 196608 (.agg ((aa t0)).toArray) b0 I c0 (bd 26) I (e2 I I) (fun p q=>AZ (bp_c n (g0.hL0 hL q) E0 F0 B0)) I<|Rv 16 b0 I c0 (fun _=>AP (vs:=[.agg ((aa q0)).toArray,.agg ((aa t0)).toArray]) (u:=.agg ((aa q0 ++ aa t0)).toArray) (e2 I I) (fun p=>by kernel_rfl))<|Bv 17 262143 b0 I I .plain (Ax (news:=(aa q0 ++ aa t0)) g0 .t2 I I I I I I (ai I)) fun g2 G0 M1=>AO (dk b0)<|Ao I<|Au hb0 func24 I (.cons (.many (cs:=(aa q0 ++ aa t0)) I I (G0.memA .t2)) .nil) I ?_
 cases h
 exact ⟨G0.ag,fun p q=>aD I⟩
def ck_p (n:Nat) (a0:Te) (a1:Int) (a2:Int):Oa (Ta × Ta × Int):=
  (cP_p n a0 a1 a2).bind fun d0=>exc d0 (fun b0=>some (b0.fK,b0.fL,(0:Int))) (fun c0=>some ((⟨(0,0,0,0,0,0,0,0),(0,0,0,0,0,0,0,0)⟩:Ta),(⟨(0,0,0,0,0,0,0,0),(0,0,0,0,0,0,0,0)⟩:Ta),c0.fE))
theorem ck_c (n:Nat) {L w} (hL:hl L w) (a0:Te) {v0_3:Vc} (h0_3:Rep.R w L [v0_3] a0.fv) {a1:Int} {a2:Int}  {r:Ta × Ta × Int} (h:ck_p n a0 a1 a2 = some r) :
 Cl 8 #[.agg #[vI a0.fl,vI a0.fj,vI a0.fm,v0_3],vI a1,vI a2] w (aj w fun _ u=>u = .tuple #[.agg ((aa r.1)).toArray,.agg ((aa r.2.1)).toArray,vI r.2.2]):=by
 unfold ck_p at h
 refine AK func8 I I I fun _ cs0 hb0=>Ac<|RG.bx (AD w) I I fun V2 u0 b1 v2=>RG.bx b1 I I fun Z2 v0 g1 x2=>RG.bx g1 I I fun b3 x0 j1 y2=>RG.nl ae j1 fun p3 y0 y1 F2=>RG.nl ae y1 fun q3 z0 z1 G2=>Ag I<|Aa<|Ac<|Ab (BX (vs:=[]) (us:=[vP u0,vP v0,vP x0]) ak (e3 I I I))<|BF (fst:=[]) (cap:=[]) (vs:=[.func (.func 24) #[] #[vP u0,vP v0,vP x0]]) .plain (bd 23) func23 I I I I (e1 I) I fun p2 Y0 U2=>Ac<|RG.nl ap z1 fun u3 A0 D1 J2=>RG.nl [vI 0] D1 fun v3 p0 c0 K2=>Aa<|Ac<|Ab (BX (vs:=[]) (us:=[vP A0,vP p0]) ak (e2 I I))<|RG.defer (fst:=[]) (cap:=[vP A0,vP p0]) (vs:=[]) I .plain I ak<|Aa<|Ac ?_
 refine Ae I<|xk h (fun q0 R0 h=>?_) (fun b0 R0 h=>?_)
 refine BL (fst:=[]) (cap:=[vP u0,vP v0,vP x0]) .plain (bd 24) I ak (fun p q=>cP_c n (c0.hL0 hL q) a0 (c0.k0 h0_3 q) (ao q (c0.memA .t6)) (ao q (c0.memA .t5)) (ao q (c0.memA .t4)) R0) fun x3 Q1=>?_
 obtain ⟨E1,M2⟩:=c0.agr Q1
 refine PN.callD (vs:=[]) (cap:=[vP A0,vP p0]) (bd 60) func60 I I I fun k2 R1 V1=>Ac<|RG.recover1 .plain R1 I<|Ag I<|Aa<|Ac<|Ae I<|Ab (FV.neqI underlying20 I I)<|Aa<|Bg I<|Ac<|Ae I<|Ab (FV.assertT I I)<|Ae I<|Ab (Ai I I)<|Ab (Ai I I)<|RG.nl [vI 0] E1 fun y3 c2 F1 P2=>AW [vI q0.fE] F1 .hd (o1 I) fun z3 G1 Q2=>Ag I<|Aa<|Aj<|Ac<|Ae I<|Ab (Bz I)<|Aa<|BP I<|Az<|Ac<|RG.nl ap G1 fun A3 g2 D0 R2=>Aa<|du 3 fun j0 U0=>Rx 0 24 j0 I U0 (AC I (D0.memA .hd))<|Rv 1 j0 I U0 (fun _=>AS 0 I)<|BH (α:=Unit) (fun ()=>[(1,vP p0),(19,vI q0.fE)]) (fun ()=>[.cells p0 [vI 0] 47,.cells A0 ap 72,.cells z0 ae 46,.cells y0 ae 46,.cells x0 [vI a2] 3,.cells v0 [vI a1] 3,.cells u0 [vI a0.fl,vI a0.fj,vI a0.fm,v0_3] 31]) D0 1 15 ?_ ?_
 rintro ⟨⟩ B3 c1 q2
 try dsimp only
 refine Bv 4 31 j0 I I .plain (Ax (news:=[vI q0.fE]) c1 .hd I I I I I I (o1 I)) fun W2 H0 s2=>AO (dk j0)<|MX.fin I<|RT.leaveD1 V1 func60 I .nil<|Au (u:=.tuple #[.agg #[vW 0,vW 0,vW 0,vW 0,vW 0,vW 0,vW 0,vW 0,vW 0,vW 0,vW 0,vW 0,vW 0,vW 0,vW 0,vW 0,vW 0,vW 0,vW 0,vW 0,vW 0,vW 0,vW 0,vW 0,vW 0,vW 0,vW 0,vW 0,vW 0,vW 0,vW 0,vW 0],vI q0.fE]) Y0 func23 I (.cons (.many (cs:=ap) I I (H0.memA .t1)) (.cons (.one I I ((H0.memA .hd) 0 _ I)) .nil)) I<|Ae I<|Ab (Ai I I)<|Ab (Ai I I)<|RG.nl ap H0 fun X2 Z1 d1 t2=>AW ap d1 .hd (ai I) fun Y2 B0 u2=>Ag I<|Aa<|Aj<|du 5 fun d0 s0=>Rv 0 d0 I s0 (fun _=>AS 0 I)<|Rx 1 224 d0 I s0 (Aq (cs:=ae) I I (ac (B0.memA .hd) 0 16))<|Rv 2 d0 I s0 (fun _=>AS 16 I)<|Rv 4 d0 I s0 (fun _=>Ak I)<|BH (α:=Unit) (fun ()=>[(6,vP y0),(7,vP z0),(8,vI q0.fE),(19,vI q0.fE),(18,.agg zM)]) (fun ()=>[.cells z0 ae 46,.cells y0 ae 46]) B0 2 63 ?_ ?_
 rintro ⟨⟩ C3 k1 z2
 try dsimp only
 refine Bv 6 127 d0 I I .plain (Ax (news:=ae) k1 .hd I I I I I I (ai I)) fun c3 I0 A2=>Rv 7 d0 I s0 (fun _=>Bn I)<|AO (dk d0)<|Ao I<|Au hb0 func8 I (.cons (.many (cs:=ae) I I (I0.memA .t1)) (.cons (.many (cs:=ae) I I (I0.memA .hd)) (.cons (.tmp I) .nil))) I ?_
 cases h
 exact I0.gv
 intro V0
 refine AM [3,5] (rk d0) ⟨?_,?_,trivial⟩
 refine AV (m' :=31) (sk d0) I .plain I (Aq (cs:=ae) I I (ac (B0.memA .hd) 16 16))<|Bv 5 63 d0 I I .plain (Ax (news:=ae) B0 .t4 I I I I I I (ai I)) fun W1 E0 M0=>?_
 obtain ⟨p1,H1⟩:=Am E0 (.a3 (.a3 .done))
 exact V0 () p1 (Tt M0 H1)
 refine RO.now (m' :=55) (sk d0) I I .plain (Ax (news:=ae) B0 .t4 I I I I I I (ai I)) fun W1 E0 M0=>Rx 3 192 d0 I s0 (Aq (cs:=ae) I I (ac (E0.memA .hd) 16 16)) ?_
 obtain ⟨q1,I1⟩:=Am E0 (.a3 (.a3 .done))
 exact V0 () q1 (Tt M0 I1)
 intro W0
 refine AM [2,3] (rk j0) ⟨?_,?_,trivial⟩
 refine AV (m' :=7) (sk j0) I .plain I (AN I ((D0.memA .t1) 0 _ I))<|Bv 3 15 j0 I I .plain (Ax (news:=ap) D0 .t3 I I I I I I (ai I)) fun Y1 G0 Q0=>?_
 obtain ⟨s1,J1⟩:=Am G0 .d2
 exact W0 () s1 (Tt Q0 J1)
 refine RO.now (m' :=11) (sk j0) I I .plain (Ax (news:=ap) D0 .t3 I I I I I I (ai I)) fun Y1 G0 Q0=>Rx 2 16 j0 I U0 (AN I ((G0.memA .t1) 0 _ I)) ?_
 obtain ⟨u1,K1⟩:=Am G0 .d2
 exact W0 () u1 (Tt Q0 K1)
 refine RG.callq' (v:=.agg ((cB b0)).toArray) (fst:=[]) (cap:=[vP u0,vP v0,vP x0]) .plain (bd 24) I ak (fun p q=>AZ (cP_c n (c0.hL0 hL q) a0 (c0.k0 h0_3 q) (ao q (c0.memA .t6)) (ao q (c0.memA .t5)) (ao q (c0.memA .t4)) R0)) I<|AW (cB b0) c0 .t1 (ai I) fun d3 v1 B2=>AW [vI 0] v1 .hd (o1 I) fun g3 J0 C2=>Aa<|Ao I<|RT.callD (vs:=[]) (cap:=[vP A0,vP p0]) (bd 60) func60 I I I fun j2 Z0 U1=>Ac<|RG.recover0 .plain Z0 I<|Ag I<|Aa<|Ac<|Ae I<|Ab (FV.neqI0 underlying20 I I)<|Aa<|BP I<|Az<|MX.fin I<|RT.leaveD0 Z0 U1 func60 I .nil<|Au (u:=.tuple #[.agg ((cB b0)).toArray,vI 0]) Y0 func23 I (.cons (.many (cs:=(cB b0)) I I (J0.memA .t1)) (.cons (.one I I ((J0.memA .hd) 0 _ I)) .nil)) I<|Ae I<|Ab (Ai I I)<|Ab (Ai I I)<|RG.nl ap J0 fun j3 b2 x1 D2=>AW (cB b0) x1 .hd (ai I) fun k3 C0 E2=>Ag I<|Aa<|Aj<|du 5 fun g0 t0=>Rv 0 g0 I t0 (fun _=>AS 0 I)<|Rx 1 224 g0 I t0 (Aq (cs:=(aa b0.fK)) I I (ac (C0.memA .hd) 0 16))<|Rv 2 g0 I t0 (fun _=>AS 16 I)<|Rv 4 g0 I t0 (fun _=>Ak I)<|BH (α:=Unit) (fun ()=>[(6,vP y0),(7,vP z0),(8,vI 0),(19,vI 0),(18,.agg ((aa b0.fL)).toArray)]) (fun ()=>[.cells z0 ae 46,.cells y0 (aa b0.fK) 46]) C0 2 63 ?_ ?_
 rintro ⟨⟩ D3 A1 H2
 try dsimp only
 refine Bv 6 127 g0 I I .plain (Ax (news:=(aa b0.fL)) A1 .hd I I I I I I (ai I)) fun s3 K0 I2=>Rv 7 g0 I t0 (fun _=>Bn I)<|AO (dk g0)<|Ao I<|Au hb0 func8 I (.cons (.many (cs:=(aa b0.fK)) I I (K0.memA .t1)) (.cons (.many (cs:=(aa b0.fL)) I I (K0.memA .hd)) (.cons (.tmp I) .nil))) I ?_
 cases h
 exact K0.gv
 intro X0
 refine AM [3,5] (rk g0) ⟨?_,?_,trivial⟩
 refine AV (m' :=31) (sk g0) I .plain I (Aq (cs:=(aa b0.fL)) I I (ac (C0.memA .hd) 16 16))<|Bv 5 63 g0 I I .plain (Ax (news:=(aa b0.fK)) C0 .t4 I I I I I I (ai I)) fun X1 F0 P0=>?_
 obtain ⟨B1,M1⟩:=Am F0 (.a3 (.a3 .done))
 exact X0 () B1 (Tt P0 M1)
 refine RO.now (m' :=55) (sk g0) I I .plain (Ax (news:=(aa b0.fK)) C0 .t4 I I I I I I (ai I)) fun X1 F0 P0=>Rx 3 192 g0 I t0 (Aq (cs:=(aa b0.fL)) I I (ac (F0.memA .hd) 16 16)) ?_
 obtain ⟨C1,P1⟩:=Am F0 (.a3 (.a3 .done))
 exact X0 () C1 (Tt P0 P1)
def dc_p (n:Nat) (a0:Te) (a1:Int) (a2:Int):Oa (Except Tc Ta):=
  (av_p n a0 a1 a2).bind fun A0=>exc A0 (fun b0=>(ah_p n b0.fG.fw (1:Int)).bind fun F0=>exc F0 (fun G0=>(ao_p n G0 b0.fG.fc).bind fun H0=>exc H0 (fun I0=>(ao_p n b0.fG.fy b0.fG.fy).bind fun J0=>exc J0 (fun K0=>(bt_p n I0 K0).bind fun M0=>exc M0 (fun c0=>(ah_p n (0:Int) (1:Int)).bind fun v0=>exc v0 (fun x0=>(if c0 = x0 then some (.error (⟨(7:Int)⟩:Tc)) else (ao_p n b0.fn b0.fn).bind fun y0=>exc y0 (fun z0=>(ao_p n b0.fd c0).bind fun B0=>exc B0 (fun C0=>(bp_p n z0 C0).bind fun D0=>exc D0 (fun E0=>some (.ok E0)) (fun p0=>some (.error p0))) (fun j0=>some (.error j0))) (fun g0=>some (.error g0)))) (fun d0=>some (.error d0))) (fun u0=>some (.error u0))) (fun t0=>some (.error t0))) (fun s0=>some (.error s0))) (fun q0=>some (.error q0))) (fun k0=>some (.error k0))
theorem dc_c (n:Nat) {L w} (hL:hl L w) (a0:Te) {v0_3:Vc} (h0_3:Rep.R w L [v0_3] a0.fv) {p0:Nat} (m0:∀ j9 v9,([vI a0.fl,vI a0.fj,vI a0.fm,v0_3]:La Vc)[j9]? = some v9 -> w.cell? ((⟨p0,0,none⟩:Addr).add j9) = some v9) {a1:Int} {p1:Nat} (m1:∀ j9 v9,([vI a1]:La Vc)[j9]? = some v9 -> w.cell? ((⟨p1,0,none⟩:Addr).add j9) = some v9) {a2:Int} {p2:Nat} (m2:∀ j9 v9,([vI a2]:La Vc)[j9]? = some v9 -> w.cell? ((⟨p2,0,none⟩:Addr).add j9) = some v9)  {r:Except Tc Ta} (h:dc_p n a0 a1 a2 = some r) :
 Cl 36 #[.pointer (some ⟨p0,0,none⟩),.pointer (some ⟨p1,0,none⟩),.pointer (some ⟨p2,0,none⟩)] w (aK w (fun (y:Ta) _ u=>u = .agg ((aa y)).toArray) (fun e=>.iface 115 (.agg #[vI e.fE])) r):=by
 unfold dc_p at h
 refine BV func36 I I I fun _ cs0 hb0 hp0=>Ac<|RG.nl ae (AD w) fun E3 j2 v0 U2=>Aa<|Ac<|Ab (AC I (fun j9 v9 h9=>v0.ag.cell0 (m0 j9 v9 h9)))<|AY I ((fun j9 v9 h9=>v0.ag.cell0 (m1 j9 v9 h9)) 0 _ I)<|AY I ((fun j9 v9 h9=>v0.ag.cell0 (m2 j9 v9 h9)) 0 _ I)<|xk h (fun D2 Q0 h=>?_) (fun b0 Q0 h=>?_)
 refine BL (fst:=[]) (cap:=[]) .plain (bd 25) I (e3 I I I) (fun p q=>av_c n (v0.hL0 hL q) a0 (v0.k0 h0_3 q) Q0) fun R3 P1=>?_
 obtain ⟨x1,c3⟩:=v0.agr P1
 cases h
 exact AE hp0 func36 ⟨x1.ag,I⟩
 refine Bm (.agg ((([vI b0.fG.fw,vI b0.fG.fx]:La Vc) ++ aa b0.fG.fy ++ aa b0.fG.fa ++ aa b0.fG.fb ++ aa b0.fG.fc ++ aa b0.fd ++ aa b0.fn)).toArray) (bd 25) I (e3 I I I) (fun p q=>AZ (av_c n (v0.hL0 hL q) a0 (v0.k0 h0_3 q) Q0)) I<|RG.nl [vI 0,vI 0,vW 0,vW 0,vW 0,vW 0,vW 0,vW 0,vW 0,vW 0,vW 0,vW 0,vW 0,vW 0,vW 0,vW 0,vW 0,vW 0,vW 0,vW 0,vW 0,vW 0,vW 0,vW 0,vW 0,vW 0,vW 0,vW 0,vW 0,vW 0,vW 0,vW 0,vW 0,vW 0,vW 0,vW 0,vW 0,vW 0,vW 0,vW 0,vW 0,vW 0,vW 0,vW 0,vW 0,vW 0,vW 0,vW 0,vW 0,vW 0,vW 0,vW 0,vW 0,vW 0,vW 0,vW 0,vW 0,vW 0,vW 0,vW 0,vW 0,vW 0,vW 0,vW 0,vW 0,vW 0,vW 0,vW 0,vW 0,vW 0,vW 0,vW 0,vW 0,vW 0,vW 0,vW 0,vW 0,vW 0,vW 0,vW 0,vW 0,vW 0,vW 0,vW 0,vW 0,vW 0,vW 0,vW 0,vW 0,vW 0,vW 0,vW 0,vW 0,vW 0,vW 0,vW 0,vW 0,vW 0] v0 fun U3 q2 y1 d3=>AW (([vI b0.fG.fw,vI b0.fG.fx]:La Vc) ++ aa b0.fG.fy ++ aa b0.fG.fa ++ aa b0.fG.fb ++ aa b0.fG.fc ++ aa b0.fd ++ aa b0.fn) y1 .hd (ai I) fun V3 j0 g3=>Aa<|Aj<|du 9 fun c0 s0=>Rv 0 c0 I s0 (fun _=>AS 0 I)<|Rv 1 c0 I s0 (fun _=>AS 0 I)<|Rx 2 648 c0 I s0 (AN I ((aT (j0.memA .hd) 0) 0 _ I))<|xk h (fun F2 C0 h=>?_) (fun J0 C0 h=>?_)
 refine Rv 4 c0 I s0 (fun _=>AS 0 I)<|Rv 5 c0 I s0 (fun _=>AS 50 I)<|Rx 6 640 c0 I s0 (Aq (cs:=(aa b0.fG.fc)) I I (ac (aT (j0.memA .hd) 0) 50 16))<|AM [3,8] (rk c0) ⟨?_,?_,trivial⟩
 refine BC (fst:=[]) (cap:=[]) I .plain (bd 29) I (e2 I I) (fun p q=>ah_c n (j0.hL0 hL q)  C0) fun W3 Q1=>?_
 obtain ⟨z1,j3⟩:=j0.agr Q1
 cases h
 exact AE hp0 func36 ⟨z1.ag,I⟩
 refine Bf (m' :=375) (sk c0) I .plain I (Al ae j0) fun X3 s2 Z0 k3=>AT (i:=3) (rk c0) (BC (fst:=[]) (cap:=[]) I .plain (bd 29) I (e2 I I) (fun p q=>ah_c n (Z0.hL0 hL q)  C0) (fun Y3 R1=>?_))
 obtain ⟨A1,p3⟩:=Z0.agr R1
 cases h
 exact AE hp0 func36 ⟨A1.ag,I⟩
 refine BQ 3 15 640 (.agg ((aa J0)).toArray) c0 I s0 (bd 29) I (e2 I I) (fun p q=>AZ (ah_c n (j0.hL0 hL q)  C0)) I<|Rv 4 c0 I s0 (fun _=>AS 0 I)<|Rv 5 c0 I s0 (fun _=>AS 50 I)<|Rx 6 640 c0 I s0 (Aq (cs:=(aa b0.fG.fc)) I I (ac (aT (j0.memA .hd) 0) 50 16))<|xk h (fun G2 D0 h=>?_) (fun B0 D0 h=>?_)
 refine AM [7,8] (rk c0) ⟨?_,?_,trivial⟩
 refine BC (fst:=[]) (cap:=[]) I .plain (bd 28) I (e2 I I) (fun p q=>ao_c n (j0.hL0 hL q) J0 b0.fG.fc D0) fun Z3 U1=>?_
 obtain ⟨B1,q3⟩:=j0.agr U1
 cases h
 exact AE hp0 func36 ⟨B1.ag,I⟩
 refine Bf (m' :=383) (sk c0) I .plain I (Al ae j0) fun b4 u2 b1 s3=>AT (i:=7) (rk c0) (BC (fst:=[]) (cap:=[]) I .plain (bd 28) I (e2 I I) (fun p q=>ao_c n (b1.hL0 hL q) J0 b0.fG.fc D0) (fun c4 V1=>?_))
 obtain ⟨C1,u3⟩:=b1.agr V1
 cases h
 exact AE hp0 func36 ⟨C1.ag,I⟩
 refine BQ 7 255 512 (.agg ((aa B0)).toArray) c0 I s0 (bd 28) I (e2 I I) (fun p q=>AZ (ao_c n (j0.hL0 hL q) J0 b0.fG.fc D0)) I<|Ca 8 511 c0 I .plain I (Al ae j0) fun d4 v2 D1 v3=>Bv 9 1023 c0 I I .plain (Ax (news:=(aa B0)) D1 .hd I I I I I I (ai I)) fun g4 q0 x3=>AO (dk c0)<|Aj<|du 10 fun d0 x0=>Rx 0 1280 d0 I x0 (AC I (q0.memA .hd))<|Rv 1 d0 I x0 (fun _=>AS 0 I)<|Rv 2 d0 I x0 (fun _=>AS 2 I)<|Rx 3 1408 d0 I x0 (Aq (cs:=(aa b0.fG.fy)) I I (ac (aT (q0.memA .t1) 0) 2 16))<|Rv 4 d0 I x0 (fun _=>AS 0 I)<|Rv 5 d0 I x0 (fun _=>AS 2 I)<|Rx 6 1408 d0 I x0 (Aq (cs:=(aa b0.fG.fy)) I I (ac (aT (q0.memA .t1) 0) 2 16))<|xk h (fun H2 E0 h=>?_) (fun K0 E0 h=>?_)
 refine AM [7,9] (rk d0) ⟨?_,?_,trivial⟩
 refine BC (fst:=[]) (cap:=[]) I .plain (bd 28) I (e2 I I) (fun p q=>ao_c n (q0.hL0 hL q) b0.fG.fy b0.fG.fy E0) fun j4 W1=>?_
 obtain ⟨E1,y3⟩:=q0.agr W1
 cases h
 exact AE hp0 func36 ⟨E1.ag,I⟩
 refine Bf (m' :=639) (sk d0) I .plain I (Al ae q0) fun k4 x2 c1 z3=>AT (i:=7) (rk d0) (BC (fst:=[]) (cap:=[]) I .plain (bd 28) I (e2 I I) (fun p q=>ao_c n (c1.hL0 hL q) b0.fG.fy b0.fG.fy E0) (fun p4 X1=>?_))
 obtain ⟨F1,A3⟩:=c1.agr X1
 cases h
 exact AE hp0 func36 ⟨F1.ag,I⟩
 refine BQ 7 255 1280 (.agg ((aa K0)).toArray) d0 I x0 (bd 28) I (e2 I I) (fun p q=>AZ (ao_c n (q0.hL0 hL q) b0.fG.fy b0.fG.fy E0)) I<|xk h (fun I2 F0 h=>?_) (fun z0 F0 h=>?_)
 refine AM [8,9] (rk d0) ⟨?_,?_,trivial⟩
 refine BC (fst:=[]) (cap:=[]) I .plain (bd 27) I (e2 I I) (fun p q=>bt_c n (q0.hL0 hL q) B0 K0 F0) fun q4 Y1=>?_
 obtain ⟨G1,J2⟩:=q0.agr Y1
 cases h
 exact AE hp0 func36 ⟨G1.ag,I⟩
 refine Bf (m' :=767) (sk d0) I .plain I (Al ae q0) fun C3 d2 X0 K2=>AT (i:=8) (rk d0) (BC (fst:=[]) (cap:=[]) I .plain (bd 27) I (e2 I I) (fun p q=>bt_c n (X0.hL0 hL q) B0 K0 F0) (fun D3 H1=>?_))
 obtain ⟨g1,M2⟩:=X0.agr H1
 cases h
 exact AE hp0 func36 ⟨g1.ag,I⟩
 refine BQ 8 511 1024 (.agg ((aa z0)).toArray) d0 I x0 (bd 27) I (e2 I I) (fun p q=>AZ (bt_c n (q0.hL0 hL q) B0 K0 F0)) I<|Ca 9 1023 d0 I .plain I (Al ae q0) fun F3 g2 j1 P2=>Bv 10 2047 d0 I I .plain (Ax (news:=(aa z0)) j1 .hd I I I I I I (ai I)) fun G3 g0 Q2=>AO (dk d0)<|Aj<|du 3 fun y0 G0=>xk h (fun A2 M0 h=>?_) (fun H0 M0 h=>?_)
 refine Rx 0 12 y0 I G0 (AC I (g0.memA .hd))<|AT (i:=1) (rk y0) (BC (fst:=[]) (cap:=[]) I .plain (bd 29) I (e2 I I) (fun p q=>ah_c n (g0.hL0 hL q)  M0) (fun H3 I1=>?_))
 obtain ⟨k1,R2⟩:=g0.agr I1
 cases h
 exact AE hp0 func36 ⟨k1.ag,I⟩
 refine Rx 0 12 y0 I G0 (AC I (g0.memA .hd))<|BQ 1 3 12 (.agg ((aa H0)).toArray) y0 I G0 (bd 29) I (e2 I I) (fun p q=>AZ (ah_c n (g0.hL0 hL q)  M0)) I<|Rv 2 y0 I G0 (fun _=>FV.eqlV (v:=.agg ((aa z0)).toArray) (u:=.agg ((aa H0)).toArray) I I (bG z0 H0))<|AT (i:=3) (rk y0) (RO.enterPT (m' :=15) (fst:=[]) (cap:=[]) (vs:=[.bool (decide (z0 = H0)),vI 7]) (sk y0) I I .plain (bd 37) func37 I I I I (e2 I I) I (fun _ y2 Z1 b2=>?_))
 refine Ac<|Ae I<|Aa<|Be I h (fun d1 h=>?_) (fun d1 h=>?_)
 refine Av<|Ae I<|BF (fst:=[]) (cap:=[]) (vs:=[vI 7]) .plain (bd 48) func48 I I I I (e1 I) I fun z2 B3 c2=>Ac<|Ae I<|Ab (FV.neqN (i:=7) (j:=0) I I)<|Aa<|Bg I<|Av<|Ae I<|Ab (AP (vs:=[vI 7]) (u:=.agg #[vI 7]) (e1 I) (fun p=>by kernel_rfl))<|Ab (BO I I)<|RG.panic .plain I<|AE c2 func48<|AE b2 func37 ?_
 cases h
 exact AE hp0 func36 ⟨g0.ag,I⟩
 refine Az<|MX.fin I<|Au (u:=.tuple #[]) Z1 func37 I .nil I<|AO (dk y0)<|Ac<|Ba 82 I<|Ab (Aq (cs:=(aa b0.fn)) I I (ac (g0.memA .t2) 82 16))<|Ba 82 I<|Ab (Aq (cs:=(aa b0.fn)) I I (ac (g0.memA .t2) 82 16))<|xk h (fun B2 P0 h=>?_) (fun I0 P0 h=>?_)
 refine BL (fst:=[]) (cap:=[]) .plain (bd 28) I (e2 I I) (fun p q=>ao_c n (g0.hL0 hL q) b0.fn b0.fn P0) fun I3 J1=>?_
 obtain ⟨q1,V2⟩:=g0.agr J1
 cases h
 exact AE hp0 func36 ⟨q1.ag,I⟩
 refine Bm (.agg ((aa I0)).toArray) (bd 28) I (e2 I I) (fun p q=>AZ (ao_c n (g0.hL0 hL q) b0.fn b0.fn P0)) I<|RG.nl ae g0 fun J3 k2 s1 W2=>AW (aa I0) s1 .hd (ai I) fun K3 t0 X2=>Aa<|Aj<|du 6 fun u0 A0=>Rx 0 96 u0 I A0 (AC I (t0.memA .hd))<|Rv 1 u0 I A0 (fun _=>AS 66 I)<|Rx 2 112 u0 I A0 (Aq (cs:=(aa b0.fd)) I I (ac (t0.memA .t3) 66 16))<|Rx 3 112 u0 I A0 (AC I (t0.memA .t1))<|xk h (fun C2 R0 h=>?_) (fun V0 R0 h=>?_)
 refine AT (i:=4) (rk u0) (BC (fst:=[]) (cap:=[]) I .plain (bd 28) I (e2 I I) (fun p q=>ao_c n (t0.hL0 hL q) b0.fd z0 R0) (fun M3 K1=>?_))
 obtain ⟨u1,Y2⟩:=t0.agr K1
 cases h
 exact AE hp0 func36 ⟨u1.ag,I⟩
 refine BQ 4 31 96 (.agg ((aa V0)).toArray) u0 I A0 (bd 28) I (e2 I I) (fun p q=>AZ (ao_c n (t0.hL0 hL q) b0.fd z0 R0)) I<|xk h (fun E2 U0 h=>?_) (fun W0 U0 h=>?_)
 refine AT (i:=5) (rk u0) (BC (fst:=[]) (cap:=[]) I .plain (bd 26) I (e2 I I) (fun p q=>bp_c n (t0.hL0 hL q) I0 V0 U0) (fun P3 M1=>?_))
 obtain ⟨v1,Z2⟩:=t0.agr M1
 cases h
 exact AE hp0 func36 ⟨v1.ag,I⟩
 refine BQ 5 63 64 (.agg ((aa W0)).toArray) u0 I A0 (bd 26) I (e2 I I) (fun p q=>AZ (bp_c n (t0.hL0 hL q) I0 V0 U0)) I<|Bv 6 127 u0 I I .plain (Ax (news:=(aa W0)) t0 .t4 I I I I I I (ai I)) fun Q3 Y0 b3=>AO (dk u0)<|Ao I<|Au hb0 func36 I (.cons (.many (cs:=(aa W0)) I I (Y0.memA .t4)) .nil) I ?_
 cases h
 exact ⟨Y0.ag,fun p q=>aD I⟩
def cU_p (n:Nat) (a0:Te) (a1:Int) (a2:Int):Oa (Ta × Int):=
  (dc_p n a0 a1 a2).bind fun c0=>exc c0 (fun d0=>some (d0,(0:Int))) (fun b0=>some ((⟨(0,0,0,0,0,0,0,0),(0,0,0,0,0,0,0,0)⟩:Ta),b0.fE))
theorem cU_c (n:Nat) {L w} (hL:hl L w) (a0:Te) {v0_3:Vc} (h0_3:Rep.R w L [v0_3] a0.fv) {a1:Int} {a2:Int}  {r:Ta × Int} (h:cU_p n a0 a1 a2 = some r) :
 Cl 10 #[.agg #[vI a0.fl,vI a0.fj,vI a0.fm,v0_3],vI a1,vI a2] w (aj w fun _ u=>u = .tuple #[.agg ((aa r.1)).toArray,vI r.2]):=by
 unfold cU_p at h
 refine AK func10 I I I fun _ cs0 hb0=>Ac<|RG.bx (AD w) I I fun R1 j0 I0 D1=>RG.bx I0 I I fun Z1 p0 Q0 E1=>RG.bx Q0 I I fun b2 q0 R0 F1=>RG.nl ae R0 fun c2 H0 U0 G1=>Ag I<|Aa<|Ac<|Ab (BX (vs:=[]) (us:=[vP j0,vP p0,vP q0]) ak (e3 I I I))<|BF (fst:=[]) (cap:=[]) (vs:=[.func (.func 36) #[] #[vP j0,vP p0,vP q0]]) .plain (bd 35) func35 I I I I (e1 I) I fun v1 F0 Q1=>Ac<|RG.nl ae U0 fun g2 s0 V0 H1=>RG.nl [vI 0] V0 fun j2 d0 b0 I1=>Aa<|Ac<|Ab (BX (vs:=[]) (us:=[vP s0,vP d0]) ak (e2 I I))<|RG.defer (fst:=[]) (cap:=[vP s0,vP d0]) (vs:=[]) I .plain I ak<|Aa<|Ac<|Ae I<|xk h (fun u0 A0 h=>?_) (fun g0 A0 h=>?_)
 refine BL (fst:=[]) (cap:=[vP j0,vP p0,vP q0]) .plain (bd 36) I ak (fun p q=>dc_c n (b0.hL0 hL q) a0 (b0.k0 h0_3 q) (ao q (b0.memA .t5)) (ao q (b0.memA .t4)) (ao q (b0.memA .t3)) A0) fun k2 c1=>?_
 obtain ⟨W0,J1⟩:=b0.agr c1
 refine PN.callD (vs:=[]) (cap:=[vP s0,vP d0]) (bd 75) func75 I I I fun u1 d1 j1=>Ac<|RG.recover1 .plain d1 I<|Ag I<|Aa<|Ac<|Ae I<|Ab (FV.neqI underlying20 I I)<|Aa<|Bg I<|Ac<|Ae I<|Ab (FV.assertT I I)<|Ae I<|Ab (Ai I I)<|Ab (Ai I I)<|RG.nl [vI 0] W0 fun p2 p1 X0 K1=>AW [vI u0.fE] X0 .hd (o1 I) fun q2 Y0 M1=>Ag I<|Aa<|Aj<|Ac<|Ae I<|Ab (Bz I)<|Aa<|BP I<|Az<|Ac<|RG.nl ae Y0 fun s2 q1 t0 P1=>Aa<|du 3 fun c0 B0=>Rx 0 24 c0 I B0 (AC I (t0.memA .hd))<|Rv 1 c0 I B0 (fun _=>AS 0 I)<|BH (α:=Unit) (fun ()=>[(1,vP d0),(19,vI u0.fE)]) (fun ()=>[.cells d0 [vI 0] 47,.cells s0 ae 46,.cells H0 ae 46,.cells q0 [vI a2] 3,.cells p0 [vI a1] 3,.cells j0 [vI a0.fl,vI a0.fj,vI a0.fm,v0_3] 31]) t0 1 15 ?_ ?_
 rintro ⟨⟩ u2 J0 x1
 try dsimp only
 refine Bv 4 31 c0 I I .plain (Ax (news:=[vI u0.fE]) J0 .hd I I I I I I (o1 I)) fun U1 x0 y1=>AO (dk c0)<|MX.fin I<|RT.leaveD1 j1 func75 I .nil<|Au (u:=.tuple #[.agg zM,vI u0.fE]) F0 func35 I (.cons (.many (cs:=ae) I I (x0.memA .t1)) (.cons (.one I I ((x0.memA .hd) 0 _ I)) .nil)) I<|Ab (Ai I I)<|Ab (Ai I I)<|AW ae x0 .t2 (ai I) fun V1 D0 z1=>Ag I<|Aa<|Ao I<|Au hb0 func10 I (.cons (.many (cs:=ae) I I (D0.memA .t2)) (.cons (.tmp I) .nil)) I ?_
 cases h
 exact D0.gv
 intro C0
 refine AM [2,3] (rk c0) ⟨?_,?_,trivial⟩
 refine AV (m' :=7) (sk c0) I .plain I (AN I ((t0.memA .t1) 0 _ I))<|Bv 3 15 c0 I I .plain (Ax (news:=ae) t0 .t3 I I I I I I (ai I)) fun k1 v0 z0=>?_
 obtain ⟨K0,Z0⟩:=Am v0 .d2
 exact C0 () K0 (Tt z0 Z0)
 refine RO.now (m' :=11) (sk c0) I I .plain (Ax (news:=ae) t0 .t3 I I I I I I (ai I)) fun k1 v0 z0=>Rx 2 16 c0 I B0 (AN I ((v0.memA .t1) 0 _ I)) ?_
 obtain ⟨M0,b1⟩:=Am v0 .d2
 exact C0 () M0 (Tt z0 b1)
 refine RG.callq' (v:=.agg ((aa g0)).toArray) (fst:=[]) (cap:=[vP j0,vP p0,vP q0]) .plain (bd 36) I ak (fun p q=>AZ (dc_c n (b0.hL0 hL q) a0 (b0.k0 h0_3 q) (ao q (b0.memA .t5)) (ao q (b0.memA .t4)) (ao q (b0.memA .t3)) A0)) I<|AW (aa g0) b0 .t1 (ai I) fun W1 P0 A1=>AW [vI 0] P0 .hd (o1 I) fun X1 y0 B1=>Aa<|Ao I<|RT.callD (vs:=[]) (cap:=[vP s0,vP d0]) (bd 75) func75 I I I fun s1 G0 g1=>Ac<|RG.recover0 .plain G0 I<|Ag I<|Aa<|Ac<|Ae I<|Ab (FV.neqI0 underlying20 I I)<|Aa<|BP I<|Az<|MX.fin I<|RT.leaveD0 G0 g1 func75 I .nil<|Au (u:=.tuple #[.agg ((aa g0)).toArray,vI 0]) F0 func35 I (.cons (.many (cs:=(aa g0)) I I (y0.memA .t1)) (.cons (.one I I ((y0.memA .hd) 0 _ I)) .nil)) I<|Ab (Ai I I)<|Ab (Ai I I)<|AW (aa g0) y0 .t2 (ai I) fun Y1 E0 C1=>Ag I<|Aa<|Ao I<|Au hb0 func10 I (.cons (.many (cs:=(aa g0)) I I (E0.memA .t2)) (.cons (.tmp I) .nil)) I ?_
 cases h
 exact E0.gv

theorem aA:ElT Tryz.prog 34 3 (Rep.size Int) 8 (vI 0) [vI 0]:=⟨underlying34,by kernel_rfl,rfl,rfl,rfl,rfl⟩
theorem fS:ElT Tryz.prog 29 36 (Rep.size Tb) 104 (.agg #[.string ⟨#[]⟩,vI 0,vN,vN,vN,.bool false]) [.string ⟨#[]⟩,vI 0,vN,vN,vN,.bool false]:=⟨underlying29,by kernel_rfl,rfl,rfl,rfl,rfl⟩
def cE_p (_n:Nat):Oa Te:=
  (kr ⟨#[117]⟩ ⟨#[97]⟩).bind fun c0=>(app ([]:La Tb) ([(⟨c0,(10:Int),([(1:Int)]:La Int),([(2:Int),(8:Int)]:La Int),([]:La Int),false⟩:Tb)]:La Tb)).bind fun k0=>(kr ⟨#[117]⟩ ⟨#[98]⟩).bind fun d0=>(app k0 ([(⟨d0,(10:Int),([(4:Int)]:La Int),([(3:Int),(2:Int)]:La Int),([]:La Int),false⟩:Tb)]:La Tb)).bind fun g0=>(kr ⟨#[117]⟩ ⟨#[99]⟩).bind fun b0=>(app g0 ([(⟨b0,(20:Int),([(2:Int)]:La Int),([(1:Int),(9:Int)]:La Int),([]:La Int),false⟩:Tb)]:La Tb)).bind fun j0=>some (⟨(1:Int),(2:Int),(0:Int),j0⟩:Te)
theorem cE_c (n:Nat) {L w} (hL:hl L w)  {r:Te} (h:cE_p n = some r) :
 Cl 12 #[] w (aj w fun w' u=>∃ (v0_3:Vc) (cs0_3:La Vc),u = .agg #[vI r.fl,vI r.fj,vI r.fm,v0_3]/\St w w' (aU w.heap.size [(36,Rep.size Tb,v0_3,r.fv.length,cs0_3)])/\Cells w' (bl (aU w.heap.size [(36,Rep.size Tb,v0_3,r.fv.length,cs0_3)]) ++ L) cs0_3 (r.fv:La Tb)):=by
 unfold cE_p at h
 refine AK func12 I I I fun _ cs0 hb0=>Ac<|RG.nl [vI 0,vI 0,vI 0,vN] (AD w) fun q3 E2 C1 Q2=>Aa<|Ac<|Ab (AP (vs:=[vI 1,vI 2]) (u:=.agg #[vI 1,vI 2,vI 0,vN]) (e2 I I) (fun p=>by kernel_rfl))<|RG.nl [vI 0,vI 0,vI 0,vN] C1 fun B3 H2 G1 U2=>AW [vI 1,vI 2,vI 0,vN] G1 .hd (ai I) fun G3 I1 W2=>Aa<|Aj<|Ac<|Ab (AP (vs:=[vI 10,vI 1,vI 2,vI 8]) (u:=.agg #[vI 10,vI 1,vI 2,vI 8]) (e4 I I I I) (fun p=>by kernel_rfl))<|Ab (AP (vs:=[vI 10,vI 4,vI 3,vI 2]) (u:=.agg #[vI 10,vI 4,vI 3,vI 2]) (e4 I I I I) (fun p=>by kernel_rfl))<|Ab (AP (vs:=[vI 20,vI 2,vI 1,vI 9]) (u:=.agg #[vI 20,vI 2,vI 1,vI 9]) (e4 I I I I) (fun p=>by kernel_rfl))<|Ab (AP (vs:=[.agg #[vI 10,vI 1,vI 2,vI 8],.agg #[vI 10,vI 4,vI 3,vI 2],.agg #[vI 20,vI 2,vI 1,vI 9]]) (u:=.agg #[vI 10,vI 1,vI 2,vI 8,vI 10,vI 4,vI 3,vI 2,vI 20,vI 2,vI 1,vI 9]) (e3 I I I) (fun p=>by kernel_rfl))<|Ae I<|Aa<|AF<|MX.loop1<|Ac<|Ab (BD (i:=0) (j:=3) I I)<|Aa<|Aj<|Bg I<|Az<|Aj<|AF<|Ac<|Ae I<|Ab (FV.idxN (cs:=[vI 10,vI 1,vI 2,vI 8,vI 10,vI 4,vI 3,vI 2,vI 20,vI 2,vI 1,vI 9]) (k:=0) (m:=4) (len:=3) I I I I I (by omega) I)<|RG.nl [vI 0,vI 0,vI 0,vI 0] I1 fun H3 I2 J1 X2=>Ag I<|AW [vI 10,vI 1,vI 2,vI 8] J1 .hd (ai I) fun I3 D0 Y2=>Aa<|Av<|Ba 3 I<|AY I ((D0.memA .t1) 3 _ I)<|Ae I<|Ab (FV.add (i:=97) (j:=0) (r:=97) I I (by decide)) ?_
 refine Ab (FV.conv (i:=97) underlying3 underlying21 I (by decide))<|Ab (FV.convIS (i:=97) (r:=⟨#[97]⟩) underlying21 underlying9 I I)<|bk h fun c0 y2 h=>Ab (FV.addS y2 I I)<|Ab (Bc (m:=1) (k:=0) (len:=4) I I I I (by omega))<|AY I ((D0.memA .hd) 0 _ I)<|Ab (Bc (m:=1) (k:=1) (len:=4) I I I I (by omega))<|AY I ((D0.memA .hd) 1 _ I)<|Ah .plain I (jA ((1:Int)) (vI 1) D0 aA (e1 I)) fun J3 p0 E0 Z2=>Ab (Bc (m:=1) (k:=2) (len:=4) I I I I (by omega))<|AY I ((E0.memA .t1) 2 _ I)<|Ab (Bc (m:=1) (k:=3) (len:=4) I I I I (by omega))<|AY I ((E0.memA .t1) 3 _ I)<|Ah .plain I (AU (α:=Int) (xs:=([(2:Int),(8:Int)]:La Int)) (vs:=[vI 2,vI 8]) (ds' :=[vI 2,vI 8]) I E0 aA I (e2 I I) (by kernel_rfl) I) fun K3 q0 F0 c2=>Ab (AP (vs:=[.string c0,vI 10,(vS p0 1),(vS q0 2)]) (u:=.agg #[.string c0,vI 10,(vS p0 1),(vS q0 2),vN,.bool false]) (e4 I I I I) (fun p=>by kernel_rfl)) ?_
 have G0:=BI F0 .t1
 have A1:=BK (α:=Int) (v:=(vS p0 1)) (xs:=([(1:Int)]:La Int)) G0 L (Bl (α:=Int) F0 .t1 (AG (jC ((1:Int)) (vI 1) E0 L I) c2) hL)
 have U0:=BI G0 .hd
 have v1:=BJ G0 .hd
 have p3:=Rep.nilAt (α:=Int) U0 L
 have g3:=Ap A1 v1
 refine Ah .plain I (AU (α:=Tb) (xs:=([(⟨c0,(10:Int),([(1:Int)]:La Int),([(2:Int),(8:Int)]:La Int),([]:La Int),false⟩:Tb)]:La Tb)) (vs:=[.agg #[.string c0,vI 10,(vS p0 1),(vS q0 2),vN,.bool false]]) (ds' :=[.string c0,vI 10,(vS p0 1),(vS q0 2),vN,.bool false]) I U0 fS I (e1 I) (by kernel_rfl) I) fun M3 J2 H0 x1=>?_
 have V0:=H0.nilRow 36 (Rep.size Tb)
 refine bk h fun Z3 C2 h=>RG.doesL .plain I (BB (α:=Tb) (ys:=([(⟨c0,(10:Int),([(1:Int)]:La Int),([(2:Int),(8:Int)]:La Int),([]:La Int),false⟩:Tb)]:La Tb)) C2 V0 (fun _ _=>.hd) fS I I (AJ (cs:=[]) (xs:=([]:La Tb)) V0 L (AR _ _)) (Src.row (α:=Tb) V0 .t1 (AG (AJ (cs:=[.string c0,vI 10,(vS p0 1),(vS q0 2),vN,.bool false]) (xs:=(([(⟨c0,(10:Int),([(1:Int)]:La Int),([(2:Int),(8:Int)]:La Int),([]:La Int),false⟩:Tb)]:La Tb):La Tb)) H0 L (AB (cs:=[.string c0,vI 10,(vS p0 1),(vS q0 2),vN,.bool false]) (ds:=[]) (cb c0 (10:Int) ([(1:Int)]:La Int) (Ap A1 (Tt v1 x1)) ([(2:Int),(8:Int)]:La Int) (Ap (BK (α:=Int) (v:=(vS q0 2)) (xs:=([(2:Int),(8:Int)]:La Int)) U0 L (Bl (α:=Int) G0 .hd (AG (AJ (cs:=[vI 2,vI 8]) (xs:=(([(2:Int),(8:Int)]:La Int):La Int)) F0 L (AB (cs:=[vI 2]) (ds:=[vI 8]) I (AB (cs:=[vI 8]) (ds:=[]) I (AR _ _)))) (BJ F0 .t1)) hL)) x1) ([]:La Int) (Rep.nilAt (α:=Int) H0 L) false) (AR _ _))) (St.nilRowT H0 36 (Rep.size Tb))))) fun g1 P3 ⟨P2,W0,b3,v2⟩=>Ba 3 I<|BU .plain (Bs (j:=3) (old:=[vI 1,vI 2,vI 0,vN]) (news:=[g1]) (new' :=[vI 1,vI 2,vI 0,g1]) W0 .t3 I I I (St.c1 (α:=Tb) W0 .hd) I I (o1 (St.o1 (α:=Tb) W0 .hd)) I) fun Q3 K1 g2=>Aa<|AI<|Av<|Ab (FV.add (i:=0) (j:=1) (r:=1) I I (by decide))<|Ae I<|Aa<|MX.again1 ?_
 obtain ⟨M1,j2⟩:=Am K1 (.a0 .d2)
 refine Ac<|Ab (BD (i:=1) (j:=3) I I)<|Aa<|Aj<|Bg I<|Az<|Aj<|AF<|Ac<|Ae I<|Ab (FV.idxN (cs:=[vI 10,vI 1,vI 2,vI 8,vI 10,vI 4,vI 3,vI 2,vI 20,vI 2,vI 1,vI 9]) (k:=1) (m:=4) (len:=3) I I I I I (by omega) I)<|RG.nl [vI 0,vI 0,vI 0,vI 0] M1 fun R3 K2 P1 k2=>Ag I<|AW [vI 10,vI 4,vI 3,vI 2] P1 .hd (ai I) fun U3 I0 p2=>Aa<|Av<|Ba 3 I<|AY I ((I0.memA .t2) 3 _ I)<|Ae I<|Ab (FV.add (i:=97) (j:=1) (r:=98) I I (by decide))<|Ab (FV.conv (i:=98) underlying3 underlying21 I (by decide))<|Ab (FV.convIS (i:=98) (r:=⟨#[98]⟩) underlying21 underlying9 I I)<|bk h fun d0 z2 h=>Ab (FV.addS z2 I I)<|Ab (Bc (m:=1) (k:=0) (len:=4) I I I I (by omega))<|AY I ((I0.memA .hd) 0 _ I)<|Ab (Bc (m:=1) (k:=1) (len:=4) I I I I (by omega))<|AY I ((I0.memA .hd) 1 _ I)<|Ah .plain I (jA ((4:Int)) (vI 4) I0 aA (e1 I)) fun V3 s0 J0 q2=>Ab (Bc (m:=1) (k:=2) (len:=4) I I I I (by omega))<|AY I ((J0.memA .t1) 2 _ I)<|Ab (Bc (m:=1) (k:=3) (len:=4) I I I I (by omega))<|AY I ((J0.memA .t1) 3 _ I)<|Ah .plain I (AU (α:=Int) (xs:=([(3:Int),(2:Int)]:La Int)) (vs:=[vI 3,vI 2]) (ds' :=[vI 3,vI 2]) I J0 aA I (e2 I I) (by kernel_rfl) I) fun W3 g0 u0 p1=>Ab (AP (vs:=[.string d0,vI 10,(vS s0 1),(vS g0 2)]) (u:=.agg #[.string d0,vI 10,(vS s0 1),(vS g0 2),vN,.bool false]) (e4 I I I I) (fun p=>by kernel_rfl)) ?_
 have v0:=BI u0 .t1
 have q1:=BJ u0 .t1
 have y1:=BK (α:=Int) (v:=(vS s0 1)) (xs:=([(4:Int)]:La Int)) v0 L (Bl (α:=Int) u0 .t1 (AG (jC ((4:Int)) (vI 4) J0 L I) p1) hL)
 have K0:=BI v0 .hd
 have X0:=BJ v0 .hd
 have j3:=Rep.nilAt (α:=Int) K0 L
 have c3:=Ap y1 X0
 refine Ah .plain I (AU (α:=Tb) (xs:=([(⟨d0,(10:Int),([(4:Int)]:La Int),([(3:Int),(2:Int)]:La Int),([]:La Int),false⟩:Tb)]:La Tb)) (vs:=[.agg #[.string d0,vI 10,(vS s0 1),(vS g0 2),vN,.bool false]]) (ds' :=[.string d0,vI 10,(vS s0 1),(vS g0 2),vN,.bool false]) I K0 fS I (e1 I) (by kernel_rfl) I) fun s3 D2 x0 Y0=>bk h fun X3 A2 h=>RG.doesL .plain I (BB (α:=Tb) (ys:=([(⟨d0,(10:Int),([(4:Int)]:La Int),([(3:Int),(2:Int)]:La Int),([]:La Int),false⟩:Tb)]:La Tb)) A2 x0 (fun _ _=>.t2) fS I I (AG v2 (Tt g2 (Tt j2 (Tt k2 (Tt p2 (Tt q2 (Tt p1 (Tt q1 (Tt X0 Y0))))))))) (Src.row (α:=Tb) x0 .hd (AJ (cs:=[.string d0,vI 10,(vS s0 1),(vS g0 2),vN,.bool false]) (xs:=(([(⟨d0,(10:Int),([(4:Int)]:La Int),([(3:Int),(2:Int)]:La Int),([]:La Int),false⟩:Tb)]:La Tb):La Tb)) x0 L (AB (cs:=[.string d0,vI 10,(vS s0 1),(vS g0 2),vN,.bool false]) (ds:=[]) (cb d0 (10:Int) ([(4:Int)]:La Int) (Ap y1 (Tt X0 Y0)) ([(3:Int),(2:Int)]:La Int) (Ap (BK (α:=Int) (v:=(vS g0 2)) (xs:=([(3:Int),(2:Int)]:La Int)) K0 L (Bl (α:=Int) v0 .hd (AG (AJ (cs:=[vI 3,vI 2]) (xs:=(([(3:Int),(2:Int)]:La Int):La Int)) u0 L (AB (cs:=[vI 3]) (ds:=[vI 2]) I (AB (cs:=[vI 2]) (ds:=[]) I (AR _ _)))) q1) hL)) Y0) ([]:La Int) (Rep.nilAt (α:=Int) x0 L) false) (AR _ _))))) fun d1 u3 ⟨M2,M0,R2,s2⟩=>Ba 3 I<|BU .plain (Bs (j:=3) (old:=[vI 1,vI 2,vI 0,g1]) (news:=[d1]) (new' :=[vI 1,vI 2,vI 0,d1]) M0 .t3 I I I (St.c1 (α:=Tb) M0 .t2) I I (o1 (St.o1 (α:=Tb) M0 .t2)) I) fun v3 D1 Q1=>Aa<|AI<|Av<|Ab (FV.add (i:=1) (j:=1) (r:=2) I I (by decide))<|Ae I<|Aa<|MX.again1 ?_
 obtain ⟨E1,R1⟩:=Am D1 .d2
 refine Ac<|Ab (BD (i:=2) (j:=3) I I)<|Aa<|Aj<|Bg I<|Az<|Aj<|AF<|Ac<|Ae I<|Ab (FV.idxN (cs:=[vI 10,vI 1,vI 2,vI 8,vI 10,vI 4,vI 3,vI 2,vI 20,vI 2,vI 1,vI 9]) (k:=2) (m:=4) (len:=3) I I I I I (by omega) I)<|RG.nl [vI 0,vI 0,vI 0,vI 0] E1 fun x3 F2 F1 U1=>Ag I<|AW [vI 20,vI 2,vI 1,vI 9] F1 .hd (ai I) fun y3 y0 V1=>Aa<|Av<|Ba 3 I<|AY I ((y0.memA .t2) 3 _ I)<|Ae I<|Ab (FV.add (i:=97) (j:=2) (r:=99) I I (by decide))<|Ab (FV.conv (i:=99) underlying3 underlying21 I (by decide))<|Ab (FV.convIS (i:=99) (r:=⟨#[99]⟩) underlying21 underlying9 I I)<|bk h fun b0 x2 h=>Ab (FV.addS x2 I I)<|Ab (Bc (m:=1) (k:=0) (len:=4) I I I I (by omega))<|AY I ((y0.memA .hd) 0 _ I)<|Ab (Bc (m:=1) (k:=1) (len:=4) I I I I (by omega))<|AY I ((y0.memA .hd) 1 _ I)<|Ah .plain I (jA ((2:Int)) (vI 2) y0 aA (e1 I)) fun z3 j0 z0 W1=>Ab (Bc (m:=1) (k:=2) (len:=4) I I I I (by omega))<|AY I ((z0.memA .t1) 2 _ I)<|Ab (Bc (m:=1) (k:=3) (len:=4) I I I I (by omega))<|AY I ((z0.memA .t1) 3 _ I)<|Ah .plain I (AU (α:=Int) (xs:=([(1:Int),(9:Int)]:La Int)) (vs:=[vI 1,vI 9]) (ds' :=[vI 1,vI 9]) I z0 aA I (e2 I I) (by kernel_rfl) I) fun A3 k0 A0 s1=>Ab (AP (vs:=[.string b0,vI 20,(vS j0 1),(vS k0 2)]) (u:=.agg #[.string b0,vI 20,(vS j0 1),(vS k0 2),vN,.bool false]) (e4 I I I I) (fun p=>by kernel_rfl)) ?_
 have B0:=BI A0 .t1
 have u1:=BJ A0 .t1
 have z1:=BK (α:=Int) (v:=(vS j0 1)) (xs:=([(2:Int)]:La Int)) B0 L (Bl (α:=Int) A0 .t1 (AG (jC ((2:Int)) (vI 2) z0 L I) s1) hL)
 have P0:=BI B0 .hd
 have Z0:=BJ B0 .hd
 have k3:=Rep.nilAt (α:=Int) P0 L
 have d3:=Ap z1 Z0
 refine Ah .plain I (AU (α:=Tb) (xs:=([(⟨b0,(20:Int),([(2:Int)]:La Int),([(1:Int),(9:Int)]:La Int),([]:La Int),false⟩:Tb)]:La Tb)) (vs:=[.agg #[.string b0,vI 20,(vS j0 1),(vS k0 2),vN,.bool false]]) (ds' :=[.string b0,vI 20,(vS j0 1),(vS k0 2),vN,.bool false]) I P0 fS I (e1 I) (by kernel_rfl) I) fun C3 G2 C0 b1=>bk h fun Y3 B2 h=>RG.doesL .plain I (BB (α:=Tb) (ys:=([(⟨b0,(20:Int),([(2:Int)]:La Int),([(1:Int),(9:Int)]:La Int),([]:La Int),false⟩:Tb)]:La Tb)) B2 C0 (fun _ _=>.t2) fS I I (AG s2 (Tt Q1 (Tt R1 (Tt U1 (Tt V1 (Tt W1 (Tt s1 (Tt u1 (Tt Z0 b1))))))))) (Src.row (α:=Tb) C0 .hd (AJ (cs:=[.string b0,vI 20,(vS j0 1),(vS k0 2),vN,.bool false]) (xs:=(([(⟨b0,(20:Int),([(2:Int)]:La Int),([(1:Int),(9:Int)]:La Int),([]:La Int),false⟩:Tb)]:La Tb):La Tb)) C0 L (AB (cs:=[.string b0,vI 20,(vS j0 1),(vS k0 2),vN,.bool false]) (ds:=[]) (cb b0 (20:Int) ([(2:Int)]:La Int) (Ap z1 (Tt Z0 b1)) ([(1:Int),(9:Int)]:La Int) (Ap (BK (α:=Int) (v:=(vS k0 2)) (xs:=([(1:Int),(9:Int)]:La Int)) P0 L (Bl (α:=Int) B0 .hd (AG (AJ (cs:=[vI 1,vI 9]) (xs:=(([(1:Int),(9:Int)]:La Int):La Int)) A0 L (AB (cs:=[vI 1]) (ds:=[vI 9]) I (AB (cs:=[vI 9]) (ds:=[]) I (AR _ _)))) u1) hL)) b1) ([]:La Int) (Rep.nilAt (α:=Int) C0 L) false) (AR _ _))))) fun t0 D3 ⟨B1,Q0,V2,u2⟩=>Ba 3 I<|BU .plain (Bs (j:=3) (old:=[vI 1,vI 2,vI 0,d1]) (news:=[t0]) (new' :=[vI 1,vI 2,vI 0,t0]) Q0 .t3 I I I (St.c1 (α:=Tb) Q0 .t2) I I (o1 (St.o1 (α:=Tb) Q0 .t2)) I) fun E3 H1 X1=>Aa<|AI<|Av<|Ab (FV.add (i:=2) (j:=1) (r:=3) I I (by decide))<|Ae I<|Aa<|MX.again1 ?_
 obtain ⟨R0,Y1⟩:=Am H1 .d2
 refine Ac<|Ab (BD (i:=3) (j:=3) I I)<|Aa<|Aj<|BP I<|Bj I<|Ac<|Ab (AC I (R0.memA .t1))<|AW [vI 1,vI 2,vI 0,t0] R0 .t2 (o4 I I I (St.o1 (α:=Tb) R0 .hd)) fun F3 j1 Z1=>Aa<|Ao I<|Au (u:=.agg #[vI 1,vI 2,vI 0,t0]) hb0 func12 I (.cons (.many (cs:=[vI 1,vI 2,vI 0,t0]) I I (j1.memA .t2)) .nil) I ?_
 obtain ⟨k1,b2⟩:=Am j1 (.a0 .done)
 cases h
 exact ⟨k1.ag,fun p q=>⟨t0,B1,I,k1.agree q,Cells.keep0 (AG u2 (Tt X1 (Tt Y1 (Tt Z1 b2)))) q⟩⟩
def ce_p (_n:Nat) (a0:La Int) (a1:Int):Oa (Except Tc (La Int)):=
  (if a1 = 0 then some (.ok a0) else some (.error (⟨a1⟩:Tc)))
theorem ce_c (n:Nat) {L w} (_hL:hl L w) {a0:La Int} {v0_0:Vc} (h0_0:Rep.R w L [v0_0] a0) {a1:Int}  {r:Except Tc (La Int)} (h:ce_p n a0 a1 = some r) :
 Cl 78 #[v0_0,vI a1] w (aK w (fun (y:La Int) w' u=>∃ v0_0:Vc,u = v0_0/\Rep.R w' L [v0_0] y) (fun e=>.iface 115 (.agg #[vI e.fE])) r):=by
 unfold ce_p at h
 have hS0:=AD w
 refine BV func78 I I I fun _ cs0 hb0 hp0=>Ac<|Ag I<|Aa<|Aj<|Ac<|Ae I<|Ab (FV.neq (i:=a1) (j:=0) I I)<|Aa<|MX.ifn I h (fun c1 h=>?_) (fun c1 h=>?_)
 refine Az<|Ac<|Ae I<|Ag I<|Aa<|Ao I<|Bi hb0 func78 I I ?_
 cases h
 exact ⟨hS0.ag,fun p q=>aD ⟨v0_0,I,hS0.kd h0_0 q⟩⟩
 refine Av<|Ae I<|Ab (AP (vs:=[vI a1]) (u:=.agg #[vI a1]) (e1 I) (fun p=>by kernel_rfl))<|Ab (BO I I)<|RG.panic .plain I ?_
 cases h
 exact AE hp0 func78 ⟨hS0.ag,I⟩
def cV_p (_n:Nat) (a0:Int):Oa (Except Tc Unit):=
  (if a0 = 0 then some (.ok ()) else some (.error (⟨a0⟩:Tc)))
theorem cV_c (n:Nat) {L w} (_hL:hl L w) {a0:Int}  {r:Except Tc Unit} (h:cV_p n a0 = some r) :
 Cl 145 #[vI a0] w (aK w (fun (_y:Unit) _ u=>u = .tuple #[]) (fun e=>.iface 189 (.agg #[vI e.fE])) r):=by
 unfold cV_p at h
 have hS0:=AD w
 refine BV func145 I I I fun _ cs0 hb0 hp0=>Ac<|Ae I<|Ab (FV.neq (i:=a0) (j:=0) I I)<|Aa<|MX.ifn I h (fun c1 h=>?_) (fun c1 h=>?_)
 refine Az<|MX.fin I<|Au hb0 func145 I .nil I ?_
 cases h
 exact ⟨hS0.ag,fun p q=>aD I⟩
 refine Av<|Ae I<|Ab (AP (vs:=[vI a0]) (u:=.agg #[vI a0]) (e1 I) (fun p=>by kernel_rfl))<|Ab (BO I I)<|RG.panic .plain I ?_
 cases h
 exact AE hp0 func145 ⟨hS0.ag,I⟩
def aD_p (n:Nat) (a0:Bool) (a1:Int):Oa (Except Tc Unit):=
  (if a0 = true then (cV_p n a1).bind fun y2=>exc y2 (fun _y11=>some (.ok ())) (fun b0=>some (.error b0)) else some (.ok ()))
theorem aD_c (n:Nat) {L w} (hL:hl L w) {a0:Bool} {a1:Int}  {r:Except Tc Unit} (h:aD_p n a0 a1 = some r) :
 Cl 146 #[.bool a0,vI a1] w (aK w (fun (_y:Unit) _ u=>u = .tuple #[]) (fun e=>.iface 189 (.agg #[vI e.fE])) r):=by
 unfold aD_p at h
 have hS0:=AD w
 refine BV func146 I I I fun _ cs0 hb0 hp0=>Ac<|Ae I<|Aa<|MX.ifb I h (fun c1 h=>?_) (fun c1 h=>?_)
 refine Av<|Ae I<|xk h (fun d0 hy2 h=>?_) (fun k0 hy2 h=>?_)
 refine BL (fst:=[]) (cap:=[]) .plain (bd 145) I (e1 I) (fun p q=>cV_c n (hS0.hL0 hL q)  hy2) fun j0 c0=>?_
 obtain ⟨b0,g0⟩:=hS0.agr c0
 cases h
 exact AE hp0 func146 ⟨b0.ag,I⟩
 refine Bm (.tuple #[]) (bd 145) I (e1 I) (fun p q=>AZ (cV_c n (hS0.hL0 hL q)  hy2)) I<|Aa<|MX.fin I<|Au hb0 func146 I .nil I ?_
 cases h
 exact ⟨hS0.ag,fun p q=>aD I⟩
 refine Az<|MX.fin I<|Au hb0 func146 I .nil I ?_
 cases h
 exact ⟨hS0.ag,fun p q=>aD I⟩
structure Tl where
  fF:Te
  fk:Int
  deriving DecidableEq
instance:Rep Tl:=Rep.via (β:=Te × Int) fun x=>(x.fF,x.fk)
def dh_p (n:Nat) (a0:Te) (a1:Int):Oa (Except Tc Tl):=
  (bA_p n a0).bind fun g0=>(cV_p n g0).bind fun j0=>exc j0 (fun _y23=>(if a1 < 1 then (aD_p n true (2:Int)).bind fun k0=>exc k0 (fun _y32=>some (.ok (⟨a0,a1⟩:Tl))) (fun c0=>some (.error c0)) else (aD_p n (decide (8 < a1)) (2:Int)).bind fun p0=>exc p0 (fun _y47=>some (.ok (⟨a0,a1⟩:Tl))) (fun d0=>some (.error d0)))) (fun b0=>some (.error b0))
theorem dh_c (n:Nat) {L w} (hL:hl L w) (a0:Te) {v0_3:Vc} (h0_3:Rep.R w L [v0_3] a0.fv) {a1:Int}  {r:Except Tc Tl} (h:dh_p n a0 a1 = some r) :
 Cl 116 #[.agg #[vI a0.fl,vI a0.fj,vI a0.fm,v0_3],vI a1] w (aK w (fun (y:Tl) w' u=>∃ v0_3:Vc,u = .agg #[vI y.fF.fl,vI y.fF.fj,vI y.fF.fm,v0_3,vI y.fk]/\Rep.R w' L [v0_3] y.fF.fv) (fun e=>.iface 189 (.agg #[vI e.fE])) r):=by
 unfold dh_p at h
 refine BV func116 I I I fun _ cs0 hb0 hp0=>Ac<|RG.bx (AD w) I I fun c1 I0 u0 U0=>RG.nl [vI 0,vI 0,vI 0,vN,vI 0] u0 fun d1 J0 b0 V0=>Aa<|Ac<|Ab (AC I (b0.memA .t1))<|bk h fun F0 E0 h=>Bm (vI F0) (bd 61) I (e1 I) (fun p q=>bA_c n (b0.hL0 hL q) a0 (b0.k0 h0_3 q) E0) I<|xk h (fun P0 g0 h=>?_) (fun s1 g0 h=>?_)
 refine BL (fst:=[]) (cap:=[]) .plain (bd 145) I (e1 I) (fun p q=>cV_c n (b0.hL0 hL q)  g0) fun g1 z0=>?_
 obtain ⟨v0,W0⟩:=b0.agr z0
 cases h
 exact AE hp0 func116 ⟨v0.ag,I⟩
 refine Bm (.tuple #[]) (bd 145) I (e1 I) (fun p q=>AZ (cV_c n (b0.hL0 hL q)  g0)) I<|Aa<|Ac<|Ae I<|Ab (FV.lss (i:=a1) (j:=1) I I)<|Ae I<|BG (s:=10) I h (fun t0 h=>?_) (fun t0 h=>?_)
 refine Aw<|Aw<|Bq I I<|xk h (fun Q0 j0 h=>?_) (fun u1 j0 h=>?_)
 refine BL (fst:=[]) (cap:=[]) .plain (bd 146) I (e2 I I) (fun p q=>aD_c n (b0.hL0 hL q)  j0) fun j1 A0=>?_
 obtain ⟨x0,X0⟩:=b0.agr A0
 cases h
 exact AE hp0 func116 ⟨x0.ag,I⟩
 refine Bm (.tuple #[]) (bd 146) I (e2 I I) (fun p q=>AZ (aD_c n (b0.hL0 hL q)  j0)) I<|Aa<|Ac<|Ab (AC I (b0.memA .t1))<|Ae I ?_
 have q0:=Bb h0_3 b0
 obtain ⟨G0,K0,C0,_⟩:=Rep.sl q0
 refine Ab (AP (vs:=[.agg #[vI a0.fl,vI a0.fj,vI a0.fm,v0_3],vI a1]) (u:=.agg #[vI a0.fl,vI a0.fj,vI a0.fm,v0_3,vI a1]) (e2 I I) (fun p=>by rw [C0]; try kernel_rfl))<|AW [vI a0.fl,vI a0.fj,vI a0.fm,v0_3,vI a1] b0 .hd (o5 I I I (AX q0) I) fun k1 c0 Y0=>Aa<|Ao I<|Au hb0 func116 I (.cons (.many (cs:=[vI a0.fl,vI a0.fj,vI a0.fm,v0_3,vI a1]) I I (c0.memA .hd)) .nil) I ?_
 cases h
 exact ⟨c0.ag,fun p q=>aD ⟨v0_3,I,c0.k0 h0_3 q⟩⟩
 refine AH (Ak I)<|AH (FV.gtr (i:=a1) (j:=8) I I)<|By I I<|xk h (fun R0 p0 h=>?_) (fun v1 p0 h=>?_)
 refine BL (fst:=[]) (cap:=[]) .plain (bd 146) I (e2 I I) (fun p q=>aD_c n (b0.hL0 hL q)  p0) fun p1 B0=>?_
 obtain ⟨y0,Z0⟩:=b0.agr B0
 cases h
 exact AE hp0 func116 ⟨y0.ag,I⟩
 refine Bm (.tuple #[]) (bd 146) I (e2 I I) (fun p q=>AZ (aD_c n (b0.hL0 hL q)  p0)) I<|Aa<|Ac<|Ab (AC I (b0.memA .t1))<|Ae I ?_
 have s0:=Bb h0_3 b0
 obtain ⟨H0,M0,D0,_⟩:=Rep.sl s0
 refine Ab (AP (vs:=[.agg #[vI a0.fl,vI a0.fj,vI a0.fm,v0_3],vI a1]) (u:=.agg #[vI a0.fl,vI a0.fj,vI a0.fm,v0_3,vI a1]) (e2 I I) (fun p=>by rw [D0]; try kernel_rfl))<|AW [vI a0.fl,vI a0.fj,vI a0.fm,v0_3,vI a1] b0 .hd (o5 I I I (AX s0) I) fun q1 d0 b1=>Aa<|Ao I<|Au hb0 func116 I (.cons (.many (cs:=[vI a0.fl,vI a0.fj,vI a0.fm,v0_3,vI a1]) I I (d0.memA .hd)) .nil) I ?_
 cases h
 exact ⟨d0.ag,fun p q=>aD ⟨v0_3,I,d0.k0 h0_3 q⟩⟩
theorem dJ_c (_n:Nat) {L w} (_hL:hl L w) (a0:Tl) {v0_3:Vc} (_h0_3:Rep.R w L [v0_3] a0.fF.fv)  :
 Cl 148 #[.agg #[vI a0.fF.fl,vI a0.fF.fj,vI a0.fF.fm,v0_3,vI a0.fk]] w (aj w fun w' u=>∃ b0:Nat,u = .func (.func 181) #[] #[vP b0]/\St w w' [.cells b0 [vI a0.fF.fl,vI a0.fF.fj,vI a0.fF.fm,v0_3,vI a0.fk] 166]):=by
 refine AK func148 I I I fun _ cs0 hb0=>Ac<|RG.bx (AD w) I I fun g0 b0 c0 d0=>Ag I<|Aa<|Ac<|Ab (BX (vs:=[]) (us:=[vP b0]) ak (e1 I))<|Ag I<|Aa<|Ao I<|Au (u:=.func (.func 181) #[] #[vP b0]) hb0 func148 I (.cons (.tmp I) .nil) I<|⟨c0.ag,fun p q=>⟨b0,I,c0.agree q⟩⟩
def aP_l1 (n:Nat) (a1:La Int) (a0:Tl) (g0:Nat × (La (Int × Bool)) -> Oa ((Except Tc Unit) ⊕ (La (Int × Bool)))):Nat × (La (Int × Bool)) -> Oa ((Except Tc Unit) ⊕ (La (Int × Bool)))
  | (b0,d0)=>(if b0 < a1.length then (a1[b0]?).bind fun c0=>(if c0 < 0 then (aD_p n true (220:Int)).bind fun p0=>exc p0 (fun _y289=>g0 (b0 + 1,bF d0 c0 true)) (fun j0=>some (.inl (.error j0))) else (aD_p n (decide (a0.fk <= c0)) (220:Int)).bind fun q0=>exc q0 (fun _y305=>g0 (b0 + 1,bF d0 c0 true)) (fun k0=>some (.inl (.error k0)))) else some (.inr d0))
def aP_l2 (n:Nat) (a1:La Int) (a0:Tl) (g0:Nat × (La (Int × Bool)) -> Oa ((Except Tc Unit) ⊕ (La (Int × Bool)))):Nat × (La (Int × Bool)) -> Oa ((Except Tc Unit) ⊕ (La (Int × Bool)))
  | (b0,d0)=>(if b0 < a1.length then (a1[b0]?).bind fun c0=>(if c0 < 0 then (aD_p n true (220:Int)).bind fun p0=>exc p0 (fun _y467=>g0 (b0 + 1,bF d0 c0 true)) (fun j0=>some (.inl (.error j0))) else (aD_p n (decide (a0.fk <= c0)) (220:Int)).bind fun q0=>exc q0 (fun _y483=>g0 (b0 + 1,bF d0 c0 true)) (fun k0=>some (.inl (.error k0)))) else some (.inr d0))
def aP_l3 (n:Nat) (a0:Tl) (a1:La Int) (g0:Nat × Int -> Oa ((Except Tc Unit) ⊕ Int)):Nat × Int -> Oa ((Except Tc Unit) ⊕ Int)
  | (b0,c0)=>(if b0 < a0.fF.fv.length then (a0.fF.fv[b0]?).bind fun q0=>(if q0.fp = true then ((aD_p n (!(decide (((a1.length:Nat):Int) = c0))) (220:Int)).bind fun s0=>exc s0 (fun _y184=>thn (au (aP_l1 n a1 a0) n (0,([]:La (Int × Bool)))) (fun d0=>(aD_p n (!(decide (((d0.length:Nat):Int) = a0.fk))) (220:Int)).bind fun t0=>exc t0 (fun _y321=>some (.ok ())) (fun k0=>some (.error k0)))) (fun j0=>some (.error j0))).map .inl else (chk (c0 + 1)).bind fun p0=>g0 (b0 + 1,p0)) else some (.inr c0))
def aP_p (n:Nat) (a0:Tl) (a1:La Int):Oa (Except Tc Unit):=
  thn (au (aP_l3 n a0 a1) n (0,0)) (fun k0=>(aD_p n (!(decide (((a1.length:Nat):Int) = k0))) (220:Int)).bind fun g0=>exc g0 (fun _y362=>thn (au (aP_l2 n a1 a0) n (0,([]:La (Int × Bool)))) (fun b0=>(aD_p n (!(decide (((b0.length:Nat):Int) = a0.fk))) (220:Int)).bind fun j0=>exc j0 (fun _y499=>some (.ok ())) (fun d0=>some (.error d0)))) (fun c0=>some (.error c0)))
theorem aP_c (n:Nat) {L w} (hL:hl L w) (a0:Tl) {v0_3:Vc} (h0_3:Rep.R w L [v0_3] a0.fF.fv) {a1:La Int} {v1_0:Vc} (h1_0:Rep.R w L [v1_0] a1)  {r:Except Tc Unit} (h:aP_p n a0 a1 = some r) :
 Cl 147 #[.agg #[vI a0.fF.fl,vI a0.fF.fj,vI a0.fF.fm,v0_3,vI a0.fk],v1_0] w (aK w (fun (_y:Unit) _ u=>u = .tuple #[]) (fun e=>.iface 189 (.agg #[vI e.fE])) r):=by
 unfold aP_p at h
 refine BV func147 I I I fun _ cs0 hb0 hp0=>Ac<|RG.bx (AD w) I I fun y6 y0 P1 Y4=>Aa<|Ac<|RG.nl [vI 0] P1 fun z6 C1 R1 c5=>AW [vI 0] R1 .hd (o1 I) fun x4 B0 p5=>Aa<|Aj<|Ac<|Ab (AC I (B0.memA .t1))<|jE (bd 148) I (e1 I) (fun p q=>Calls.gives (dJ_c n (B0.hL hL q) a0 (B0.km h0_3 q)) fun (w8:World) (u8:Vc) ⟨b0_,hu_,s_⟩=>(⟨b0_,hu_,s_.from q⟩:∃ z0:Nat,u8 = Value.func (.func 181) #[] #[vP z0]/\St x4 w8 [.cells z0 [vI a0.fF.fl,vI a0.fF.fj,vI a0.fF.fm,v0_3,vI a0.fk] 166])) I fun G6 x6 g6 ⟨z0,k4,x1⟩=>?_
 subst k4
 have x5:=iY B0 x1
 refine Aa<|AF<|MX.rangeP (lb:=[vP z0]) I (ez B0 x1) I (bd 181) func181 I I I fun w32 v1 D0 u4 K4 F0 F5 v4 k1 s6=>Ac<|Ba 0 I<|Ba 3 I<|AY I ((aT (F0.memA .t2) 0) 3 _ I) ?_
 have u1:=Bb h0_3 F0
 have p6:=Bh u1
 refine Ab (Bk (xs:=a0.fF.fv) underlying29 I u1)<|Ae I<|Aa<|AF<|tn h fun t6 V3 p1=>MX.lo (α:=Nat × Int) (fun ⟨j0,q0⟩=>[(0,.func (.yield v1) #[] #[]),(7,v0_3),(8,vn a0.fF.fv.length),(9,vn j0)]) (fun ⟨j0,q0⟩=>[.obj v1 (lpO u4 .ready none),.obj D0 (.deferred (some [])),.cells z0 [vI a0.fF.fl,vI a0.fF.fj,vI a0.fF.fm,v0_3,vI a0.fk] 166,.cells C1 [vI q0] 3,.cells y0 [vI a0.fF.fl,vI a0.fF.fj,vI a0.fF.fm,v0_3,vI a0.fk] 166]) (fun ⟨j0,q0⟩=>(j0,q0)) (0,0) V3 F0 ?_
 rintro B4 ⟨j0,q0⟩ v7 M1 E0 Z2 h
 unfold aP_l3 at h
 try dsimp only at h
 refine Ac<|Ab (BD (i:=j0) (j:=a0.fF.fv.length) I I)<|Aa<|Aj<|Be I h (fun D1 h=>?_) (fun D1 h=>?_)
 refine Az<|Aj<|AF<|Ac<|Ae I<|bk h fun x0 p4 h=>?_
 obtain ⟨y4,F4,F3,K3,I4,Y3,Q3⟩:=Bw (Bb h0_3 E0) p4
 obtain ⟨z1,A1,B1,rfl,Z3,b4,c4⟩:=ba Y3
 refine Ab (BE 6 j0 I F3 I I K3)<|Ab (AC I Q3)<|RG.nl [.string ⟨#[]⟩,vI 0,vN,vN,vN,.bool false] E0 fun A6 E4 Q1 C0=>Ag I<|AW [.string x0.fB,vI x0.ft,z1,A1,B1,.bool x0.fp] Q1 .hd (o6 I I (AX (Ap Z3 C0)) (AX (Ap b4 C0)) (AX (Ap c4 C0)) I) fun B6 A0 b3=>Aa<|Ac<|Ba 5 I<|AY I ((A0.memA .hd) 5 _ I)<|Ae I<|RG.ifb (s:=16) I h (fun E1 h=>?_) (fun E1 h=>?_)
 refine Aw<|Aw<|Aw<|Aw<|Aw<|Bq I I<|Aa<|Bg I ?_
 have h:=kZ h p1
 refine Ao rfl<|Au (u:=.tuple #[]) k1 func181 rfl .nil rfl<|MX.endRange0 A0 .t1 (by intro h9; cases h9) fun C6 U1 Z4=>?_
 obtain ⟨u0,b5⟩:=Am U1 (.a0 .d1)
 refine AI<|Ac<|Ae I ?_
 have q1:=Bb h1_0 u0
 have j6:=Bh q1
 refine Ab (Bk (xs:=a1) underlying54 I q1)<|AY I ((u0.memA .t3) 0 _ I)<|Ab (FV.neq (i:=((a1.length:Nat):Int)) (j:=q0) I I)<|xk h (fun M4 I0 h=>?_) (fun z7 I0 h=>?_)
 refine BL (fst:=[]) (cap:=[]) .plain (bd 146) I (e2 I I) (fun p q=>aD_c n (u0.hL0 hL q)  I0) fun D6 v3=>?_
 obtain ⟨V1,d5⟩:=u0.agr v3
 refine BT V1 .t1 fun E6 W1 g5=>?_
 obtain ⟨X1,j5⟩:=Am W1 (.a0 .d1)
 cases h
 exact AE hp0 func147 ⟨X1.ag,I⟩
 refine Bm (.tuple #[]) (bd 146) I (e2 I I) (fun p q=>AZ (aD_c n (u0.hL0 hL q)  I0)) I<|Aa<|Ac<|Ah .plain I (Does.makeMap (κ:=Int) (ν:=Bool) u0) fun F6 V0 Z0 k5=>Ag I<|Aa<|Aj<|Ac<|Ae I<|Ab (Bk (xs:=a1) underlying54 I (Bb h1_0 Z0))<|Ae I<|Aa<|AF ?_
 obtain ⟨Y1,q5⟩:=Am Z0 (.a0 (.a1 .d3))
 refine tn h fun u6 W3 G0=>MX.lo (α:=Nat × (La (Int × Bool))) (fun ⟨d0,k0⟩=>[(2,vP y0),(5,.map (some V0)),(20,v1_0),(21,vn a1.length),(22,vn d0)]) (fun ⟨d0,k0⟩=>[.obj V0 (cx (k0:La (Int × Bool))),.obj D0 (.deferred (some [])),.cells y0 [vI a0.fF.fl,vI a0.fF.fj,vI a0.fF.fm,v0_3,vI a0.fk] 166]) (fun ⟨d0,k0⟩=>(d0,k0)) (0,([]:La (Int × Bool))) W3 Y1 ?_
 rintro C4 ⟨d0,k0⟩ x7 X0 b0 g1 h
 unfold aP_l1 at h
 try dsimp only at h
 refine Ac<|Ab (BD (i:=d0) (j:=a1.length) I I)<|Aa<|Aj<|Be I h (fun F1 h=>?_) (fun F1 h=>?_)
 refine Az<|Aj<|AF<|Ac<|bk h fun s0 q4 h=>?_
 obtain ⟨z4,G4,G3,M3,J1,d4,R3⟩:=Bw (Bb h1_0 b0) q4
 have H3:J1 = [vI s0]:=d4; subst H3
 refine Ab (BE 1 d0 I G3 I I M3)<|AY I (R3 0 _ I)<|Ag I<|Aa<|Ac<|Ae I<|Ab (FV.lss (i:=s0) (j:=0) I I)<|Ae I<|BG (s:=28) I h (fun G1 h=>?_) (fun G1 h=>?_)
 refine Aw<|Aw<|Aw<|Aw<|Bq I I<|xk h (fun P4 J0 h=>?_) (fun A7 J0 h=>?_)
 have h:=ar h G0
 refine BL (fst:=[]) (cap:=[]) .plain (bd 146) I (e2 I I) (fun p q=>aD_c n (b0.hL0 hL q)  J0) fun H6 x3=>?_
 obtain ⟨Z1,s5⟩:=b0.agr x3
 refine BT Z1 .t1 fun I6 b2 t5=>?_
 obtain ⟨c2,u5⟩:=Am b2 (.a0 .d1)
 cases h
 exact AE hp0 func147 ⟨c2.ag,I⟩
 refine Bm (.tuple #[]) (bd 146) I (e2 I I) (fun p q=>AZ (aD_c n (b0.hL0 hL q)  J0)) I<|Aa<|Av<|Ae I<|Ae I<|BU .plain (Acts.mapUpdate (kv:=s0) (vv:=true) b0 .hd underlying229 underlying3 I I I I) fun J6 g2 c3=>Aa<|AI<|Av<|Ab (Bu (i:=d0) (j:=1) I I (by omega))<|Ae I<|Aa<|X0 (d0 + 1,bF k0 s0 true) g2 (Tt g1 c3) h
 refine AH (Ak I)<|RG.fg 4 I<|AH (AN I ((b0.memA .t2) 4 _ I))<|AH (FV.geq (i:=s0) (j:=a0.fk) I I)<|By I I<|xk h (fun Q4 K0 h=>?_) (fun B7 K0 h=>?_)
 have h:=ar h G0
 refine BL (fst:=[]) (cap:=[]) .plain (bd 146) I (e2 I I) (fun p q=>aD_c n (b0.hL0 hL q)  K0) fun K6 y3=>?_
 obtain ⟨j2,v5⟩:=b0.agr y3
 refine BT j2 .t1 fun M6 k2 y5=>?_
 obtain ⟨p2,z5⟩:=Am k2 (.a0 .d1)
 cases h
 exact AE hp0 func147 ⟨p2.ag,I⟩
 refine Bm (.tuple #[]) (bd 146) I (e2 I I) (fun p q=>AZ (aD_c n (b0.hL0 hL q)  K0)) I<|Aa<|Av<|Ae I<|Ae I<|BU .plain (Acts.mapUpdate (kv:=s0) (vv:=true) b0 .hd underlying229 underlying3 I I I I) fun P6 q2 g3=>Aa<|AI<|Av<|Ab (Bu (i:=d0) (j:=1) I I (by omega))<|Ae I<|Aa<|X0 (d0 + 1,bF k0 s0 true) q2 (Tt g1 g3) h
 refine Bj I ?_
 have h:=aI h G0
 try dsimp only at h
 refine Av<|Ae I<|Ab (FV.len_map (D:=k0) b0 .hd underlying229 I)<|Ba 4 I<|AY I ((b0.memA .t2) 4 _ I)<|Ab (FV.neq (i:=((k0.length:Nat):Int)) (j:=a0.fk) I I)<|xk h (fun R4 M0 h=>?_) (fun C7 M0 h=>?_)
 refine BL (fst:=[]) (cap:=[]) .plain (bd 146) I (e2 I I) (fun p q=>aD_c n (b0.hL0 hL q)  M0) fun Q6 z3=>?_
 obtain ⟨s2,A5⟩:=b0.agr z3
 refine BT s2 .t1 fun R6 u2 B5=>?_
 obtain ⟨v2,C5⟩:=Am u2 (.a0 .d1)
 cases h
 exact AE hp0 func147 ⟨v2.ag,I⟩
 refine Bm (.tuple #[]) (bd 146) I (e2 I I) (fun p q=>AZ (aD_c n (b0.hL0 hL q)  M0)) I<|Aa<|MX.fin I<|RT.take b0 .t1 fun U6 x2 D5=>?_
 obtain ⟨y2,E5⟩:=Am x2 (.a0 .d1)
 refine Au hb0 func147 I .nil I ?_
 cases h
 exact ⟨y2.ag,fun p q=>aD I⟩
 refine AH (Ak I)<|AH (Ak I)<|AH (AC I (A0.memA .hd))<|RG.yieldP (fd:=147) (vs:=[vn j0,.agg #[.string x0.fB,vI x0.ft,z1,A1,B1,.bool x0.fp]]) (.yes I I) I (e2 I I) A0 .t1 v4 I I I fun J4 E3 q6=>Az<|MX.begin A0 .t1 fun V6 b1 j3=>AF<|Av<|AY I ((b1.memA .t4) 0 _ I)<|bk h fun y1 j4 h=>Ab (BR (i:=q0) (j:=1) I I j4)<|AW [vI y1] b1 .t4 (o1 I) fun W6 z2 k3=>Aa<|AI<|MX.roundEnd E3 z2 .t1 fun X6 A2 p3=>AH (Bz I)<|By I I<|Aa<|BP I<|Az<|AI<|Av<|Ab (Bu (i:=j0) (j:=1) I I (by omega))<|Ae I<|Aa ?_
 obtain ⟨B2,q3⟩:=Am A2 .d1
 exact M1 (j0 + 1,y1) B2 (Tt Z2 (Tt C0 (Tt b3 (Tt j3 (Tt k3 (Tt p3 q3)))))) h
 refine Bj I ?_
 have h:=aI h p1
 try dsimp only at h
 refine MX.fin rfl<|Au (u:=.tuple #[]) k1 func181 rfl .nil rfl<|MX.endRange0 E0 .hd (by intro h9; cases h9) fun Y6 C2 G5=>?_
 obtain ⟨v0,H5⟩:=Am C2 .d1
 refine AI<|Ac<|Ae I ?_
 have s1:=Bb h1_0 v0
 have k6:=Bh s1
 refine Ab (Bk (xs:=a1) underlying54 I s1)<|AY I ((v0.memA .t2) 0 _ I)<|Ab (FV.neq (i:=((a1.length:Nat):Int)) (j:=q0) I I)<|xk h (fun U4 P0 h=>?_) (fun D7 P0 h=>?_)
 refine BL (fst:=[]) (cap:=[]) .plain (bd 146) I (e2 I I) (fun p q=>aD_c n (v0.hL0 hL q)  P0) fun Z6 A3=>?_
 obtain ⟨D2,I5⟩:=v0.agr A3
 refine BT D2 .hd fun b7 E2 J5=>?_
 obtain ⟨F2,K5⟩:=Am E2 .d1
 cases h
 exact AE hp0 func147 ⟨F2.ag,I⟩
 refine Bm (.tuple #[]) (bd 146) I (e2 I I) (fun p q=>AZ (aD_c n (v0.hL0 hL q)  P0)) I<|Aa<|Ac<|Ah .plain I (Does.makeMap (κ:=Int) (ν:=Bool) v0) fun c7 W0 c1 M5=>Ag I<|Aa<|Aj<|Ac<|Ae I<|Ab (Bk (xs:=a1) underlying54 I (Bb h1_0 c1))<|Ae I<|Aa<|AF ?_
 obtain ⟨G2,P5⟩:=Am c1 (.a0 (.a0 .d2))
 refine tn h fun v6 X3 H0=>MX.lo (α:=Nat × (La (Int × Bool))) (fun ⟨g0,p0⟩=>[(2,vP y0),(5,.map (some W0)),(20,v1_0),(21,vn a1.length),(22,vn g0)]) (fun ⟨g0,p0⟩=>[.obj W0 (cx (p0:La (Int × Bool))),.obj D0 (.deferred (some [])),.cells y0 [vI a0.fF.fl,vI a0.fF.fj,vI a0.fF.fm,v0_3,vI a0.fk] 166]) (fun ⟨g0,p0⟩=>(g0,p0)) (0,([]:La (Int × Bool))) X3 G2 ?_
 rintro D4 ⟨g0,p0⟩ y7 Y0 c0 j1 h
 unfold aP_l2 at h
 try dsimp only at h
 refine Ac<|Ab (BD (i:=g0) (j:=a1.length) I I)<|Aa<|Aj<|Be I h (fun H1 h=>?_) (fun H1 h=>?_)
 refine Az<|Aj<|AF<|Ac<|bk h fun t0 s4 h=>?_
 obtain ⟨A4,H4,I3,P3,K1,g4,U3⟩:=Bw (Bb h1_0 c0) s4
 have J3:K1 = [vI t0]:=g4; subst J3
 refine Ab (BE 1 g0 I I3 I I P3)<|AY I (U3 0 _ I)<|Ag I<|Aa<|Ac<|Ae I<|Ab (FV.lss (i:=t0) (j:=0) I I)<|Ae I<|BG (s:=28) I h (fun I1 h=>?_) (fun I1 h=>?_)
 refine Aw<|Aw<|Aw<|Aw<|Bq I I<|xk h (fun V4 Q0 h=>?_) (fun E7 Q0 h=>?_)
 have h:=ar h H0
 refine BL (fst:=[]) (cap:=[]) .plain (bd 146) I (e2 I I) (fun p q=>aD_c n (c0.hL0 hL q)  Q0) fun d7 B3=>?_
 obtain ⟨H2,Q5⟩:=c0.agr B3
 refine BT H2 .t1 fun g7 I2 R5=>?_
 obtain ⟨J2,U5⟩:=Am I2 (.a0 .d1)
 cases h
 exact AE hp0 func147 ⟨J2.ag,I⟩
 refine Bm (.tuple #[]) (bd 146) I (e2 I I) (fun p q=>AZ (aD_c n (c0.hL0 hL q)  Q0)) I<|Aa<|Av<|Ae I<|Ae I<|BU .plain (Acts.mapUpdate (kv:=t0) (vv:=true) c0 .hd underlying229 underlying3 I I I I) fun j7 K2 s3=>Aa<|AI<|Av<|Ab (Bu (i:=g0) (j:=1) I I (by omega))<|Ae I<|Aa<|Y0 (g0 + 1,bF p0 t0 true) K2 (Tt j1 s3) h
 refine AH (Ak I)<|RG.fg 4 I<|AH (AN I ((c0.memA .t2) 4 _ I))<|AH (FV.geq (i:=t0) (j:=a0.fk) I I)<|By I I<|xk h (fun W4 R0 h=>?_) (fun F7 R0 h=>?_)
 have h:=ar h H0
 refine BL (fst:=[]) (cap:=[]) .plain (bd 146) I (e2 I I) (fun p q=>aD_c n (c0.hL0 hL q)  R0) fun k7 C3=>?_
 obtain ⟨M2,V5⟩:=c0.agr C3
 refine BT M2 .t1 fun p7 P2 W5=>?_
 obtain ⟨Q2,X5⟩:=Am P2 (.a0 .d1)
 cases h
 exact AE hp0 func147 ⟨Q2.ag,I⟩
 refine Bm (.tuple #[]) (bd 146) I (e2 I I) (fun p q=>AZ (aD_c n (c0.hL0 hL q)  R0)) I<|Aa<|Av<|Ae I<|Ae I<|BU .plain (Acts.mapUpdate (kv:=t0) (vv:=true) c0 .hd underlying229 underlying3 I I I I) fun q7 R2 u3=>Aa<|AI<|Av<|Ab (Bu (i:=g0) (j:=1) I I (by omega))<|Ae I<|Aa<|Y0 (g0 + 1,bF p0 t0 true) R2 (Tt j1 u3) h
 refine Bj I ?_
 have h:=aI h H0
 try dsimp only at h
 refine Av<|Ae I<|Ab (FV.len_map (D:=p0) c0 .hd underlying229 I)<|Ba 4 I<|AY I ((c0.memA .t2) 4 _ I)<|Ab (FV.neq (i:=((p0.length:Nat):Int)) (j:=a0.fk) I I)<|xk h (fun X4 U0 h=>?_) (fun G7 U0 h=>?_)
 refine BL (fst:=[]) (cap:=[]) .plain (bd 146) I (e2 I I) (fun p q=>aD_c n (c0.hL0 hL q)  U0) fun s7 D3=>?_
 obtain ⟨U2,Y5⟩:=c0.agr D3
 refine BT U2 .t1 fun t7 V2 Z5=>?_
 obtain ⟨W2,b6⟩:=Am V2 (.a0 .d1)
 cases h
 exact AE hp0 func147 ⟨W2.ag,I⟩
 refine Bm (.tuple #[]) (bd 146) I (e2 I I) (fun p q=>AZ (aD_c n (c0.hL0 hL q)  U0)) I<|Aa<|MX.fin I<|RT.take c0 .t1 fun u7 X2 c6=>?_
 obtain ⟨Y2,d6⟩:=Am X2 (.a0 .d1)
 refine Au hb0 func147 I .nil I ?_
 cases h
 exact ⟨Y2.ag,fun p q=>aD I⟩
def bI_l1 (_n:Nat) (a0:Tl) (a1:La Int) (j0:Nat × (La Int) -> Oa ((Except Tc (La Int)) ⊕ (La Int))):Nat × (La Int) -> Oa ((Except Tc (La Int)) ⊕ (La Int))
  | (b0,c0)=>(if b0 < a0.fF.fv.length then (a0.fF.fv[b0]?).bind fun d0=>(if d0.fp = true then some (.inl (.ok c0)) else (a1[b0]?).bind fun g0=>(idx c0 g0).bind fun p0=>(chk (p0 + d0.ft)).bind fun k0=>(put c0 ((g0.toNat:Nat):Int) k0).bind fun q0=>j0 (b0 + 1,q0)) else some (.inr c0))
def bI_p (n:Nat) (a0:Tl) (a1:La Int):Oa (Except Tc (La Int)):=
  (aP_p n a0 a1).bind fun g0=>exc g0 (fun _y23=>(mk a0.fk (0:Int)).bind fun d0=>thn (au (bI_l1 n a0 a1) n (0,d0)) (fun c0=>some (.ok c0))) (fun b0=>some (.error b0))
theorem bI_c (n:Nat) {L w} (hL:hl L w) (a0:Tl) {v0_3:Vc} (h0_3:Rep.R w L [v0_3] a0.fF.fv) {a1:La Int} {v1_0:Vc} (h1_0:Rep.R w L [v1_0] a1)  {r:Except Tc (La Int)} (h:bI_p n a0 a1 = some r) :
 Cl 117 #[.agg #[vI a0.fF.fl,vI a0.fF.fj,vI a0.fF.fm,v0_3,vI a0.fk],v1_0] w (aK w (fun (y:La Int) w' u=>∃ v0_0:Vc,u = v0_0/\Rep.R w' L [v0_0] y) (fun e=>.iface 189 (.agg #[vI e.fE])) r):=by
 unfold bI_p at h
 refine BV func117 I I I fun _ cs0 hb0 hp0=>Ac<|RG.bx (AD w) I I fun u4 W0 Z0 X3=>RG.bx Z0 I (Rep.c1 (Bb h1_0 Z0)) fun v4 X0 d0 Y3=>Ag I<|Aa<|Ac<|Ab (AC I (d0.memA .t1))<|AY I ((d0.memA .hd) 0 _ I)<|xk h (fun W3 M0 h=>?_) (fun Q4 M0 h=>?_)
 refine BL (fst:=[]) (cap:=[]) .plain (bd 147) I (e2 I I) (fun p q=>aP_c n (d0.hL0 hL q) a0 (d0.k0 h0_3 q) (d0.k0 h1_0 q) M0) fun x4 M2=>?_
 obtain ⟨X1,Z3⟩:=d0.agr M2
 cases h
 exact AE hp0 func117 ⟨X1.ag,I⟩
 refine Bm (.tuple #[]) (bd 147) I (e2 I I) (fun p q=>AZ (aP_c n (d0.hL0 hL q) a0 (d0.k0 h0_3 q) (d0.k0 h1_0 q) M0)) I<|Aa<|Ac<|Ba 4 I<|AY I ((d0.memA .t1) 4 _ I)<|bk h fun J1 E1 h=>Ah .plain I (Does.mk (α:=Int) E1 d0 aA I) fun D4 q0 g1 c4=>?_
 have Q2:=AJ (cs:=(List.replicate a0.fk.toNat [vI 0]).flatten) (xs:=J1) g1 L (Cells.mk E1 I)
 refine RG.nl [vN] g1 fun J4 Y0 H0 I2=>BU .plain (Ax (news:=[(.slice (some ⟨q0,0,none⟩) a0.fk.toNat a0.fk.toNat)]) H0 .hd I I I (St.c1 (α:=Int) H0 .t1) I I (o1 (St.o1 (α:=Int) H0 .t1))) fun D3 x0 J2=>Aa<|Aj<|Ac<|Ab (AC I (x0.memA .t3))<|jE (bd 148) I (e1 I) (fun p q=>Calls.gives (dJ_c n (x0.hL hL q) a0 (x0.km h0_3 q)) fun (w8:World) (u8:Vc) ⟨b0_,hu_,s_⟩=>(⟨b0_,hu_,s_.from q⟩:∃ u0:Nat,u8 = Value.func (.func 181) #[] #[vP u0]/\St D3 w8 [.cells u0 [vI a0.fF.fl,vI a0.fF.fj,vI a0.fF.fm,v0_3,vI a0.fk] 166])) I fun M4 t4 g4 ⟨u0,v3,G1⟩=>?_
 subst v3
 refine Aa<|AF<|MX.rangeP (lb:=[vP u0]) I (ez x0 G1) I (bd 181) func181 I I I fun P4 P0 V0 F1 V3 I0 K2 C3 s1 p4=>Ac<|Ba 0 I<|Ba 3 I<|AY I ((aT (I0.memA .t2) 0) 3 _ I) ?_
 have z1:=Bb h0_3 I0
 have j4:=Bh z1
 refine Ab (Bk (xs:=a0.fF.fv) underlying29 I z1)<|Ae I<|Aa<|AF<|tn h fun q4 g3 v1=>MX.lf (α:=Nat × (La Int) × (La Vc)) (fun ⟨c0,p0,s0⟩=>[(0,.func (.yield P0) #[] #[]),(7,v0_3),(8,vn a0.fF.fv.length),(9,vn c0)]) (fun ⟨c0,p0,s0⟩=>[.obj P0 (lpO F1 .ready none),.obj V0 (.deferred (some [])),.cells u0 [vI a0.fF.fl,vI a0.fF.fj,vI a0.fF.fm,v0_3,vI a0.fk] 166,.cells Y0 [(.slice (some ⟨q0,0,none⟩) a0.fk.toNat a0.fk.toNat)] 34,rr w 3 Int (.slice (some ⟨q0,0,none⟩) a0.fk.toNat a0.fk.toNat) p0.length s0,.cells X0 [v1_0] 54,.cells W0 [vI a0.fF.fl,vI a0.fF.fj,vI a0.fF.fm,v0_3,vI a0.fk] 166]) (fun ⟨c0,p0,s0⟩ H1=>Cells H1 (bl [.obj P0 (lpO F1 .ready none),.obj V0 (.deferred (some [])),.cells u0 [vI a0.fF.fl,vI a0.fF.fj,vI a0.fF.fm,v0_3,vI a0.fk] 166,.cells Y0 [(.slice (some ⟨q0,0,none⟩) a0.fk.toNat a0.fk.toNat)] 34,rr w 3 Int (.slice (some ⟨q0,0,none⟩) a0.fk.toNat a0.fk.toNat) p0.length s0,.cells X0 [v1_0] 54,.cells W0 [vI a0.fF.fl,vI a0.fF.fj,vI a0.fF.fm,v0_3,vI a0.fk] 166] ++ L) s0 p0) (fun ⟨c0,p0,s0⟩=>(c0,p0)) (0,J1,(List.replicate a0.fk.toNat [vI 0]).flatten) g3 I0 (AG Q2 (Tt I2 (Tt J2 (Tt (iY x0 G1) K2)))) ?_
 rintro H3 ⟨c0,p0,s0⟩ H1 W1 C0 u2 J0 h
 unfold bI_l1 at h
 try dsimp only at h
 refine Ac<|Ab (BD (i:=c0) (j:=a0.fF.fv.length) I I)<|Aa<|Aj<|Be I h (fun P1 h=>?_) (fun P1 h=>?_)
 refine Az<|Aj<|AF<|Ac<|Ae I<|bk h fun j0 x3 h=>?_
 obtain ⟨F3,K3,U2,Y2,R3,j3,b3⟩:=Bw (Bb h0_3 C0) x3
 obtain ⟨Q0,R0,U0,rfl,B1,C1,D1⟩:=ba j3
 refine Ab (BE 6 c0 I U2 I I Y2)<|Ab (AC I b3)<|RG.nl [.string ⟨#[]⟩,vI 0,vN,vN,vN,.bool false] C0 fun y4 I3 Y1 y0=>Ag I<|AW [.string j0.fB,vI j0.ft,Q0,R0,U0,.bool j0.fp] Y1 .hd (o6 I I (AX (Ap B1 y0)) (AX (Ap C1 y0)) (AX (Ap D1 y0)) I) fun z4 v0 k1=>Aa<|Ac<|Ba 5 I<|AY I ((v0.memA .hd) 5 _ I)<|Ae I<|RG.ifb (s:=16) I h (fun Q1 h=>?_) (fun Q1 h=>?_)
 refine Aw<|Aw<|Aw<|Aw<|Aw<|Bq I I<|Aa<|Bg I ?_
 have h:=ar h v1
 refine Ao rfl<|Au (u:=.tuple #[]) s1 func181 rfl .nil rfl<|MX.endRange0 v0 .t1 (by intro h9; cases h9) fun A4 Z1 v2=>?_
 obtain ⟨b1,x2⟩:=Am Z1 (.a0 .d1)
 refine AI<|Ac<|AY I ((b1.memA .t3) 0 _ I)<|Ag I<|Aa<|Ao I<|RT.take b1 .t1 fun B4 b2 y2=>?_
 obtain ⟨D0,z2⟩:=Am b2 (.a0 .d1)
 have E0:=BI D0 .t3
 have b4:=BJ D0 .t3
 have k3:=BK (α:=Int) (v:=(.slice (some ⟨q0,0,none⟩) a0.fk.toNat a0.fk.toNat)) (xs:=p0) E0 L (Bl (α:=Int) D0 .t3 (AG J0 (Tt y0 (Tt k1 (Tt v2 (Tt x2 (Tt y2 z2)))))) hL)
 refine Bi hb0 func117 I I ?_
 cases h
 exact ⟨E0.ag,fun p q=>aD ⟨(.slice (some ⟨q0,0,none⟩) a0.fk.toNat a0.fk.toNat),I,E0.kd k3 q⟩⟩
 refine AH (Ak I)<|AH (Ak I)<|AH (AC I (v0.memA .hd))<|RG.yieldP (fd:=117) (vs:=[vn c0,.agg #[.string j0.fB,vI j0.ft,Q0,R0,U0,.bool j0.fp]]) (.yes I I) I (e2 I I) v0 .t1 C3 I I I fun U3 P2 k4=>Ac<|Ag I<|Aa<|Av<|RG.nl [.string ⟨#[]⟩,vI 0,vN,vN,vN,.bool false] v0 fun C4 J3 c2 A2=>?_
 have A0:=Tt y0 (Tt k1 A2)
 refine AW [.string j0.fB,vI j0.ft,Q0,R0,U0,.bool j0.fp] c2 .hd (o6 I I (AX (Ap B1 A0)) (AX (Ap C1 A0)) (AX (Ap D1 A0)) I) fun E4 g2 B2=>Aa<|MX.begin g2 .t2 fun F4 t0 C2=>AF<|du 11 fun b0 g0=>Rx 0 3680 b0 I g0 (AN I ((t0.memA .t5) 0 _ I))<|Rx 1 3704 b0 I g0 (AN I ((t0.memA .t7) 0 _ I))<|Rv 2 b0 I g0 (fun _=>Ak I)<|bk h fun B0 y3 h=>?_
 obtain ⟨G3,M3,V2,Z2,R1,p3,c3⟩:=Bw (Bb h1_0 t0) y3
 have W2:R1 = [vI B0]:=p3; subst W2
 refine Rv 3 b0 I g0 (fun _=>BE 1 c0 I V2 I I Z2)<|Rx 4 3680 b0 I g0 (AN I (c3 0 _ I))<|bk h fun I1 z3 h=>?_
 obtain ⟨x1,A3⟩:=aL z3
 have A1:=Tt A0 (Tt B2 C2)
 have y1:=AG J0 A1
 obtain ⟨K1,P3,z0,K0,U1,q3,d3⟩:=St.nth (α:=Int) t0 .t6 y1 A3
 obtain ⟨M1,Q3,u1⟩:=Cb (α:=Int) t0 .t6 K0
 obtain rfl:K1 = ⟨M1,0,none⟩:=by rw [u1] at z0; cases z0; rfl
 have X2:U1 = [vI I1]:=q3; subst X2
 refine Rv 5 b0 I g0 (fun _=>BE 1 (B0.toNat) I z0 I x1 K0)<|Rx 6 3584 b0 I g0 (AN I (d3 0 _ I))<|Rv 7 b0 I g0 (fun _=>AS 1 I)<|Rx 8 3584 b0 I g0 (AN I ((t0.memA .hd) 1 _ I))<|bk h fun s4 u3 h=>Rv 9 b0 I g0 (fun _=>BR (i:=I1) (j:=j0.ft) I I u3)<|Rv 10 b0 I g0 (fun _=>BE 1 (B0.toNat) I z0 I x1 K0)<|bk h fun E3 B3 h=>AT (i:=11) (rk b0) (RO.acts (m' :=4095) (sk b0) I I .plain (Acts.set (α:=Int) (i:=B0.toNat) B3 t0 u1 (fun _=>.t6) y1 I I I I I I) (fun G4 ⟨V1,j2,D2,R2⟩=>?_))
 refine AO (dk b0)<|AI<|MX.roundEnd P2 j2 .t2 fun H4 k2 p1=>AH (Bz I)<|By I I<|Aa<|BP I<|Az<|AI<|Av<|Ab (Bu (i:=c0) (j:=1) I I (by omega))<|Ae I<|Aa ?_
 obtain ⟨p2,q1⟩:=Am k2 .d2
 exact W1 (c0 + 1,E3,V1) p2 (Tt u2 (Tt A1 (Tt D2 (Tt p1 q1)))) (AG R2 (Tt p1 q1)) h
 refine Bj I ?_
 have h:=aI h v1
 try dsimp only at h
 refine MX.fin rfl<|Au (u:=.tuple #[]) s1 func181 rfl .nil rfl<|MX.endRange0 C0 .hd (by intro h9; cases h9) fun I4 q2 E2=>?_
 obtain ⟨j1,F2⟩:=Am q2 .d1
 refine AI<|Ac<|AY I ((j1.memA .t2) 0 _ I)<|Ag I<|Aa<|Ao I<|RT.take j1 .hd fun K4 s2 G2=>?_
 obtain ⟨F0,H2⟩:=Am s2 .d1
 have G0:=BI F0 .t2
 have d4:=BJ F0 .t2
 have s3:=BK (α:=Int) (v:=(.slice (some ⟨q0,0,none⟩) a0.fk.toNat a0.fk.toNat)) (xs:=p0) G0 L (Bl (α:=Int) F0 .t2 (AG J0 (Tt E2 (Tt F2 (Tt G2 H2)))) hL)
 refine Bi hb0 func117 I I ?_
 cases h
 exact ⟨G0.ag,fun p q=>aD ⟨(.slice (some ⟨q0,0,none⟩) a0.fk.toNat a0.fk.toNat),I,G0.kd s3 q⟩⟩
def cY_p (n:Nat) (a0:Te) (a1:Int) (a2:La Int):Oa (Except Tc (La Int)):=
  (dh_p n a0 a1).bind fun y3=>exc y3 (fun d0=>(bI_p n d0 a2).bind fun g0=>exc g0 (fun j0=>some (.ok j0)) (fun c0=>some (.error c0))) (fun b0=>some (.error b0))
theorem cY_c (n:Nat) {L w} (hL:hl L w) (a0:Te) {v0_3:Vc} (h0_3:Rep.R w L [v0_3] a0.fv) {p0:Nat} (m0:∀ j9 v9,([vI a0.fl,vI a0.fj,vI a0.fm,v0_3]:La Vc)[j9]? = some v9 -> w.cell? ((⟨p0,0,none⟩:Addr).add j9) = some v9) {a1:Int} {p1:Nat} (m1:∀ j9 v9,([vI a1]:La Vc)[j9]? = some v9 -> w.cell? ((⟨p1,0,none⟩:Addr).add j9) = some v9) {a2:La Int} {v2_0:Vc} (h2_0:Rep.R w L [v2_0] a2) {p2:Nat} (m2:∀ j9 v9,([v2_0]:La Vc)[j9]? = some v9 -> w.cell? ((⟨p2,0,none⟩:Addr).add j9) = some v9)  {r:Except Tc (La Int)} (h:cY_p n a0 a1 a2 = some r) :
 Cl 115 #[.pointer (some ⟨p0,0,none⟩),.pointer (some ⟨p1,0,none⟩),.pointer (some ⟨p2,0,none⟩)] w (aK w (fun (y:La Int) w' u=>∃ v0_0:Vc,u = v0_0/\Rep.R w' L [v0_0] y) (fun e=>.iface 189 (.agg #[vI e.fE])) r):=by
 unfold cY_p at h
 have hS0:=AD w
 refine BV func115 I I I fun _ cs0 hb0 hp0=>Ac<|Ag I<|Aa<|Aj<|du 6 fun kt1 kp2=>Rx 0 52 kt1 I kp2 (AC I (fun j9 v9 h9=>hS0.ag.cell0 (m0 j9 v9 h9)))<|Rx 1 52 kt1 I kp2 (AN I ((fun j9 v9 h9=>hS0.ag.cell0 (m1 j9 v9 h9)) 0 _ I))<|xk h (fun z0 hy3 h=>?_) (fun j0 hy3 h=>?_)
 refine Rx 3 48 kt1 I kp2 (AN I ((fun j9 v9 h9=>hS0.ag.cell0 (m2 j9 v9 h9)) 0 _ I))<|AT (i:=2) (rk kt1) (BC (fst:=[]) (cap:=[]) I .plain (bd 116) I (e2 I I) (fun p q=>dh_c n (hS0.hL hL q) a0 (Ar h0_3 q) hy3) (fun I0 s0=>?_))
 obtain ⟨k0,B0⟩:=hS0.agr s0
 cases h
 exact AE hp0 func115 ⟨k0.ag,I⟩
 refine Rx 3 48 kt1 I kp2 (AN I ((fun j9 v9 h9=>hS0.ag.cell0 (m2 j9 v9 h9)) 0 _ I))<|Bp 2 15 kt1 I .plain (bd 116) I (e2 I I) (fun p q=>AZ (dh_c n (hS0.hL hL q) a0 (Ar h0_3 q) hy3)) I fun J0 H0 t0 ⟨F0,hu_,g0⟩=>?_
 subst hu_
 obtain ⟨b0,C0⟩:=hS0.agr t0
 refine xk h (fun A0 c0 h=>?_) (fun M0 c0 h=>?_)
 refine AT (i:=4) (rk kt1) (BC (fst:=[]) (cap:=[]) I .plain (bd 117) I (e2 I I) (fun p q=>bI_c n (b0.hL hL q) j0 (Ar g0 q) (b0.km h2_0 q) c0) (fun K0 u0=>?_))
 obtain ⟨q0,D0⟩:=b0.agr u0
 cases h
 exact AE hp0 func115 ⟨q0.ag,I⟩
 refine Bp 4 31 kt1 I .plain (bd 117) I (e2 I I) (fun p q=>AZ (bI_c n (b0.hL hL q) j0 (Ar g0 q) (b0.km h2_0 q) c0)) I fun w32 y0 v0 ⟨G0,hu_,x0⟩=>?_
 subst hu_
 obtain ⟨d0,E0⟩:=b0.agr v0
 refine Rv 5 kt1 I kp2 (fun _=>Bn I)<|AO (dk kt1)<|Ao I<|Bi hb0 func115 I I ?_
 cases h
 exact ⟨d0.ag,fun p q=>aD ⟨y0,I,d0.kd x0 q⟩⟩
def dw_p (n:Nat) (a0:Te) (a1:La Int) (a2:Int):Oa ((La Int) × Int):=
  (cY_p n a0 a2 a1).bind fun c0=>exc c0 (fun d0=>some (d0,(0:Int))) (fun b0=>some (([]:La Int),b0.fE))
theorem dw_c (n:Nat) {L w} (hL:hl L w) (a0:Te) {v0_3:Vc} (h0_3:Rep.R w L [v0_3] a0.fv) {a1:La Int} {v1_0:Vc} (h1_0:Rep.R w L [v1_0] a1) {a2:Int}  {r:(La Int) × Int} (h:dw_p n a0 a1 a2 = some r) :
 Cl 79 #[.agg #[vI a0.fl,vI a0.fj,vI a0.fm,v0_3],v1_0,vI a2] w (aj w fun w' u=>∃ v0_0:Vc,u = .tuple #[v0_0,vI r.2]/\Rep.R w' L [v0_0] r.1):=by
 unfold dw_p at h
 refine AK func79 I I I fun _ cs0 hb0=>Ac<|RG.bx (AD w) I I fun M1 g0 D0 B1=>RG.bx D0 I (Rep.c1 (Bb h1_0 D0)) fun V1 j0 M0 C1=>RG.bx M0 I I fun W1 k0 P0 D1=>Ag I<|Ag I<|Aa<|Ac<|Ab (BX (vs:=[]) (us:=[vP g0,vP k0,vP j0]) ak (e3 I I I))<|BF (fst:=[]) (cap:=[]) (vs:=[.func (.func 115) #[] #[vP g0,vP k0,vP j0]]) .plain (bd 114) func114 I I I I (e1 I) I fun x1 E0 J1=>Ac<|RG.nl [vN] P0 fun X1 p0 Q0 E1=>RG.nl [vI 0] Q0 fun Y1 d0 b0 F1=>Aa<|Ac<|Ab (BX (vs:=[]) (us:=[vP p0,vP d0]) ak (e2 I I))<|RG.defer (fst:=[]) (cap:=[vP p0,vP d0]) (vs:=[]) I .plain I ak<|Aa<|Ac<|Ae I<|xk h (fun s0 z0 h=>?_) (fun g2 z0 h=>?_)
 refine BL (fst:=[]) (cap:=[vP g0,vP k0,vP j0]) .plain (bd 115) I ak (fun p q=>cY_c n (b0.hL hL q) a0 (b0.km h0_3 q) (ao q (b0.memA .t4)) (ao q (b0.memA .t2)) (b0.km h1_0 q) (ao q (b0.memA .t3)) z0) fun Z1 b1=>?_
 obtain ⟨R0,G1⟩:=b0.agr b1
 refine PN.callD (vs:=[]) (cap:=[vP p0,vP d0]) (bd 144) func144 I I I fun v1 g1 k1=>Ac<|RG.recover1 .plain g1 I<|Ag I<|Aa<|Ac<|Ae I<|Ab (FV.neqI underlying20 I I)<|Aa<|Bg I<|Ac<|Ae I<|Ab (FV.assertT I I)<|Ae I<|Ab (Ai I I)<|Ab (Ai I I)<|RG.nl [vI 0] R0 fun b2 s1 U0 H1=>AW [vI s0.fE] U0 .hd (o1 I) fun c2 u0 I1=>Ag I<|Aa<|Aj<|Ac<|Ae I<|Ab (Bz I)<|Aa<|BP I<|Az<|Ac<|Ag I<|Aa<|du 3 fun c0 A0=>Rv 0 c0 I A0 (fun _=>Ak I)<|Rv 1 c0 I A0 (fun _=>AS 0 I)<|BH (α:=Unit) (fun ()=>[(1,vP d0),(19,vI s0.fE)]) (fun ()=>[.cells d0 [vI 0] 47,.cells p0 [vN] 34,.cells k0 [vI a2] 3,.cells j0 [v1_0] 54,.cells g0 [vI a0.fl,vI a0.fj,vI a0.fm,v0_3] 31]) u0 1 15 ?_ ?_
 rintro ⟨⟩ d2 G0 y1
 try dsimp only
 refine Bv 4 31 c0 I I .plain (Ax (news:=[vI s0.fE]) G0 .hd I I I I I I (o1 I)) fun P1 q0 z1=>AO (dk c0)<|MX.fin I<|RT.leaveD1 k1 func144 I .nil<|Au (u:=.tuple #[vN,vI s0.fE]) E0 func114 I (.cons (.one I I ((q0.memA .t1) 0 _ I)) (.cons (.one I I ((q0.memA .hd) 0 _ I)) .nil)) I<|Ab (Ai I I)<|Ab (Ai I I)<|Ag I<|Ag I<|Aa<|Ao I ?_
 have p1:=Rep.nilAt (α:=Int) q0 L
 refine Au hb0 func79 I (.cons (.tmp I) (.cons (.tmp I) .nil)) I ?_
 cases h
 exact ⟨q0.ag,fun p q=>⟨vN,I,q0.kd p1 q⟩⟩
 intro C0
 refine AM [2,3] (rk c0) ⟨?_,?_,trivial⟩
 refine AV (m' :=7) (sk c0) I .plain I (AN I ((u0.memA .hd) 0 _ I))<|Bv 3 15 c0 I I .plain (Ax (news:=[vN]) u0 .t2 I I I I I I (o1 I)) fun q1 v0 x0=>?_
 obtain ⟨H0,V0⟩:=Am v0 .d1
 exact C0 () H0 (Tt x0 V0)
 refine RO.now (m' :=11) (sk c0) I I .plain (Ax (news:=[vN]) u0 .t2 I I I I I I (o1 I)) fun q1 v0 x0=>Rx 2 16 c0 I A0 (AN I ((v0.memA .hd) 0 _ I)) ?_
 obtain ⟨I0,W0⟩:=Am v0 .d1
 exact C0 () I0 (Tt x0 W0)
 refine Bo (fst:=[]) (cap:=[vP g0,vP k0,vP j0]) .plain (bd 115) I ak (fun p q=>AZ (cY_c n (b0.hL hL q) a0 (b0.km h0_3 q) (ao q (b0.memA .t4)) (ao q (b0.memA .t2)) (b0.km h1_0 q) (ao q (b0.memA .t3)) z0)) I fun Q1 B0 Z0 ⟨K1,hu_,y0⟩=>?_
 subst hu_
 obtain ⟨J0,A1⟩:=b0.agr Z0
 refine BU .plain (Ax (news:=[B0]) J0 .t1 I I I (Rep.c1 y0) I I (o1 (AX y0))) fun R1 K0 X0=>AW [vI 0] K0 .hd (o1 I) fun U1 t0 Y0=>Aa<|Ao I<|RT.callD (vs:=[]) (cap:=[vP p0,vP d0]) (bd 144) func144 I I I fun u1 F0 j1=>Ac<|RG.recover0 .plain F0 I<|Ag I<|Aa<|Ac<|Ae I<|Ab (FV.neqI0 underlying20 I I)<|Aa<|BP I<|Az<|MX.fin I<|RT.leaveD0 F0 j1 func144 I .nil<|Au (u:=.tuple #[B0,vI 0]) E0 func114 I (.cons (.one I I ((t0.memA .t1) 0 _ I)) (.cons (.one I I ((t0.memA .hd) 0 _ I)) .nil)) I<|Ab (Ai I I)<|Ab (Ai I I)<|Ag I<|Ag I<|Aa<|Ao I<|Au hb0 func79 I (.cons (.tmp I) (.cons (.tmp I) .nil)) I ?_
 cases h
 exact ⟨t0.ag,fun p q=>⟨B0,I,t0.kd (Ap y0 (Tt X0 Y0)) q⟩⟩
structure Tj where
  fJ:Int
  fall:Int
  deriving DecidableEq
instance:Rep Tj:=Rep.via (β:=Int × Int) fun x=>(x.fJ,x.fall)
theorem fT {w:World} {L:La Nat} {cs:La Vc} {x:Tj} (h:Rep.R w L cs x):cs = [vI x.fJ,vI x.fall]:=by
  obtain ⟨c0,r0,rfl,h0,h⟩:=h
  have e0:c0 = [vI x.fJ]:=h0; subst e0
  have e1:r0 = [vI x.fall]:=h; subst e1
  rfl
theorem mL {w:World} {L:La Nat} (a0:Int) (a1:Int):Rep.R w L [vI a0,vI a1] (⟨a0,a1⟩:Tj):=⟨[vI a0],[vI a1],rfl,rfl,rfl⟩
theorem el95:ElT Tryz.prog 95 98 (Rep.size Tj) 16 (.agg #[vI 0,vI 0]) [vI 0,vI 0]:=⟨underlying95,by kernel_rfl,rfl,rfl,rfl,rfl⟩
def aS_l1 (_n:Nat) (a1:La Int) (a0:Te) (a3:Int) (j0:Nat × (La Tj) -> Oa (La Tj)):Nat × (La Tj) -> Oa (La Tj)
  | (b0,c0)=>(if b0 < a1.length then (a1[b0]?).bind fun d0=>(idx c0 d0).bind fun g0=>(a0.fv[b0]?).bind fun p0=>(idx p0.fl a3).bind fun q0=>(chk (g0.fJ + q0)).bind fun k0=>(put c0 ((d0.toNat:Nat):Int) (⟨k0,g0.fall⟩:Tj)).bind fun s0=>j0 (b0 + 1,s0) else some c0)
def aS_l2 (_n:Nat) (d0:La Int) (g0:Nat × (La Tj) -> Oa (La Tj)):Nat × (La Tj) -> Oa (La Tj)
  | (b0,c0)=>(if b0 < d0.length then (d0[b0]?).bind fun j0=>(c0[b0]?).bind fun k0=>(put c0 ((b0:Nat):Int) (⟨k0.fJ,j0⟩:Tj)).bind fun p0=>g0 (b0 + 1,p0) else some c0)
def aS_p (n:Nat) (a0:Te) (a1:La Int) (a2:Int) (a3:Int):Oa (Except Tc (La Tj)):=
  (dw_p n a0 a1 a2).bind fun b0=>(ce_p n b0.1 b0.2).bind fun k0=>exc k0 (fun p0=>(if a3 < 0 then some (.error (⟨(2:Int)⟩:Tc)) else (if a0.fl <= a3 then some (.error (⟨(2:Int)⟩:Tc)) else (mk a2 (⟨(0:Int),(0:Int)⟩:Tj)).bind fun j0=>Option.bind (au (aS_l2 n p0) n (0,j0)) (fun d0=>Option.bind (au (aS_l1 n a1 a0 a3) n (0,d0)) (fun g0=>some (.ok g0)))))) (fun c0=>some (.error c0))
theorem aS_c (n:Nat) {L w} (hL:hl L w) (a0:Te) {v0_3:Vc} (h0_3:Rep.R w L [v0_3] a0.fv) {a1:La Int} {v1_0:Vc} (h1_0:Rep.R w L [v1_0] a1) {a2:Int} {a3:Int}  {r:Except Tc (La Tj)} (h:aS_p n a0 a1 a2 a3 = some r) :
 Cl 41 #[.agg #[vI a0.fl,vI a0.fj,vI a0.fm,v0_3],v1_0,vI a2,vI a3] w (aK w (fun (y:La Tj) w' u=>∃ v0_0:Vc,u = v0_0/\Rep.R w' L [v0_0] y) (fun e=>.iface 115 (.agg #[vI e.fE])) r):=by
 unfold aS_p at h
 refine BV func41 I I I fun _ cs0 hb0 hp0=>Ac<|RG.bx (AD w) I I fun X4 u0 x0 s4=>Ag I<|Aa<|Ac<|Ab (AC I (x0.memA .hd))<|Ae I<|Ae I<|bk h fun k5 z3 h=>jE (bd 79) I (e3 I I I) (fun p q=>dw_c n (x0.hL hL q) a0 (x0.km h0_3 q) (x0.km h1_0 q) z3) I fun Y4 W4 W1 ⟨P4,hu_,c1⟩=>?_
 subst hu_
 obtain ⟨z0,t4⟩:=x0.agr W1
 refine Ab (Ai I I)<|Ab (Ai I I)<|xk h (fun q4 M0 h=>?_) (fun H0 M0 h=>?_)
 refine BL (fst:=[]) (cap:=[]) .plain (bd 78) I (e2 I I) (fun p q=>ce_c n (z0.hL hL q) (Ar c1 q) M0) fun b5 X1=>?_
 obtain ⟨P1,u4⟩:=z0.agr X1
 cases h
 exact AE hp0 func41 ⟨P1.ag,I⟩
 refine jE (bd 78) I (e2 I I) (fun p q=>AZ (ce_c n (z0.hL hL q) (Ar c1 q) M0)) I fun c5 A3 Y1 ⟨Q4,hu_,d1⟩=>?_
 subst hu_
 obtain ⟨A0,v4⟩:=z0.agr Y1
 refine Ag I<|Aa<|Ac<|Ae I<|Ab (FV.lss (i:=a3) (j:=0) I I)<|Ae I<|BG (s:=24) I h (fun C1 h=>?_) (fun C1 h=>?_)
 refine Aw<|Aw<|Aw<|Aw<|Bq I I<|BF (fst:=[]) (cap:=[]) (vs:=[.bool true,vI 2]) .plain (bd 37) func37 I I I I (e2 I I) I fun d4 y4 P2=>Ac<|Ae I<|Aa<|Bg I<|Av<|Ae I<|BF (fst:=[]) (cap:=[]) (vs:=[vI 2]) .plain (bd 48) func48 I I I I (e1 I) I fun j4 z4 Q2=>Ac<|Ae I<|Ab (FV.neqN (i:=2) (j:=0) I I)<|Aa<|Bg I<|Av<|Ae I<|Ab (AP (vs:=[vI 2]) (u:=.agg #[vI 2]) (e1 I) (fun p=>by kernel_rfl))<|Ab (BO I I)<|RG.panic .plain I<|AE Q2 func48<|AE P2 func37 ?_
 cases h
 exact AE hp0 func41 ⟨A0.ag,I⟩
 refine AH (Ak I)<|RG.fg 0 I<|AH (AN I ((A0.memA .hd) 0 _ I))<|AH (FV.geq (i:=a3) (j:=a0.fl) I I)<|By I I<|BF (fst:=[]) (cap:=[]) (vs:=[.bool (decide (a0.fl <= a3)),vI 2]) .plain (bd 37) func37 I I I I (e2 I I) I fun k4 Z1 R2=>Ac<|Ae I<|Aa<|Be I h (fun D1 h=>?_) (fun D1 h=>?_)
 refine Av<|Ae I<|BF (fst:=[]) (cap:=[]) (vs:=[vI 2]) .plain (bd 48) func48 I I I I (e1 I) I fun p4 A4 U2=>Ac<|Ae I<|Ab (FV.neqN (i:=2) (j:=0) I I)<|Aa<|Bg I<|Av<|Ae I<|Ab (AP (vs:=[vI 2]) (u:=.agg #[vI 2]) (e1 I) (fun p=>by kernel_rfl))<|Ab (BO I I)<|RG.panic .plain I<|AE U2 func48<|AE R2 func37 ?_
 cases h
 exact AE hp0 func41 ⟨A0.ag,I⟩
 refine Az<|MX.fin I<|Au (u:=.tuple #[]) Z1 func37 I .nil I<|Aa<|Ac<|Ae I<|bk h fun u1 k1 h=>Ah .plain I (Does.mk (α:=Tj) k1 A0 el95 I) fun g5 q0 Q0 U0=>Ag I<|Aa<|Aj<|Ac<|Ae I ?_
 have b1:=Ap d1 U0
 have E4:=Bh b1
 refine Ab (Bk (xs:=H0) underlying34 I b1)<|Ae I<|Aa<|AF ?_
 obtain ⟨K4,K2,y2⟩:=av h
 refine MX.lf (α:=Nat × (La Tj) × (La Vc)) (fun ⟨d0,k0,s0⟩=>[(1,v1_0),(3,vI a3),(4,vP u0),(10,(.slice (some ⟨q0,0,none⟩) a2.toNat a2.toNat)),(33,A3),(34,vn H0.length),(35,vn d0)]) (fun ⟨d0,k0,s0⟩=>[rr w 98 Tj (.slice (some ⟨q0,0,none⟩) a2.toNat a2.toNat) k0.length s0,.cells u0 [vI a0.fl,vI a0.fj,vI a0.fm,v0_3] 31]) (fun ⟨d0,k0,s0⟩ p1=>Cells p1 (bl [rr w 98 Tj (.slice (some ⟨q0,0,none⟩) a2.toNat a2.toNat) k0.length s0,.cells u0 [vI a0.fl,vI a0.fj,vI a0.fm,v0_3] 31] ++ L) s0 k0) (fun ⟨d0,k0,s0⟩=>(d0,k0)) (0,u1,(List.replicate a2.toNat [vI 0,vI 0]).flatten) K2 Q0 (AJ (cs:=(List.replicate a2.toNat [vI 0,vI 0]).flatten) (xs:=u1) Q0 L (Cells.mk k1 (mL (0:Int) (0:Int)))) ?_
 rintro H3 ⟨d0,k0,s0⟩ p1 J1 v0 R0 B0 h
 unfold aS_l2 at h
 try dsimp only at h
 refine Ac<|Ab (BD (i:=d0) (j:=H0.length) I I)<|Aa<|Aj<|Be I h (fun A1 h=>?_) (fun A1 h=>?_)
 refine Az<|Aj<|AF<|Ac<|Ae I<|bk h fun E0 p3 h=>?_
 obtain ⟨D3,J3,j2,B2,E1,V2,F2⟩:=Bw (Ap d1 (Tt U0 R0)) p3
 have k2:E1 = [vI E0]:=V2; subst k2
 refine Ab (BE 1 d0 I j2 I I B2)<|AY I (F2 0 _ I)<|Ag I<|Ag I<|Aa<|Av<|Ae I<|Ae I<|Ae I<|bk h fun F0 g1 h=>?_
 obtain ⟨v1,K3,J0,Y0,Y3,W2,F4⟩:=St.nth (α:=Tj) v0 .hd B0 g1
 obtain ⟨y1,M3,V0⟩:=Cb (α:=Tj) v0 .hd Y0
 obtain rfl:v1 = ⟨y1,0,none⟩:=by rw [V0] at J0; cases J0; rfl
 obtain rfl:=fT W2
 refine Ab (BE 2 d0 I J0 I I Y0)<|Ba 1 I ?_
 obtain ⟨P3,p2,B4,Z3,X2,G4,d2⟩:=St.nthAt (α:=Tj) v0 .hd B0 g1 V0
 obtain rfl:=fT X2
 refine bk h fun B3 x3 h=>RG.acts' .plain (Acts.setPart (α:=Tj) (i:=d0) (tot:=1) (ds:=[vI F0.fJ,vI F0.fall]) (news:=[vI E0]) (full:=[vI F0.fJ,vI E0]) x3 v0 p2 (fun _=>.hd) B0 d2 I I I I I I (mL F0.fJ E0) I (o1 I)) fun Z4 ⟨F1,M1,R1,b2⟩=>Aa<|AI<|Av<|Ab (Bu (i:=d0) (j:=1) I I (by omega))<|Ae I<|Aa<|J1 (d0 + 1,B3,F1) M1 (Tt R0 R1) b2 h
 refine Bj I ?_
 have h:=y2 _ h
 try dsimp only at h
 refine Aj<|Ac<|Ae I ?_
 have Z0:=Bb h1_0 v0
 have D4:=Bh Z0
 refine Ab (Bk (xs:=a1) underlying54 I Z0)<|Ae I<|Aa<|AF ?_
 obtain ⟨M4,M2,z2⟩:=av h
 refine MX.lf (α:=Nat × (La Tj) × (La Vc)) (fun ⟨g0,p0,t0⟩=>[(3,vI a3),(4,vP u0),(10,(.slice (some ⟨q0,0,none⟩) a2.toNat a2.toNat)),(46,v1_0),(47,vn a1.length),(48,vn g0)]) (fun ⟨g0,p0,t0⟩=>[rr w 98 Tj (.slice (some ⟨q0,0,none⟩) a2.toNat a2.toNat) p0.length t0,.cells u0 [vI a0.fl,vI a0.fj,vI a0.fm,v0_3] 31]) (fun ⟨g0,p0,t0⟩ q1=>Cells q1 (bl [rr w 98 Tj (.slice (some ⟨q0,0,none⟩) a2.toNat a2.toNat) p0.length t0,.cells u0 [vI a0.fl,vI a0.fj,vI a0.fm,v0_3] 31] ++ L) t0 p0) (fun ⟨g0,p0,t0⟩=>(g0,p0)) (0,k0,s0) M2 v0 B0 ?_
 rintro I3 ⟨g0,p0,t0⟩ q1 K1 j0 U1 C0 h
 unfold aS_l1 at h
 try dsimp only at h
 refine Ac<|Ab (BD (i:=g0) (j:=a1.length) I I)<|Aa<|Aj<|Be I h (fun B1 h=>?_) (fun B1 h=>?_)
 refine Az<|Aj<|AF<|Ac<|Ae I<|bk h fun G0 q3 h=>?_
 obtain ⟨E3,Q3,q2,C2,G1,Y2,G2⟩:=Bw (Bb h1_0 j0) q3
 have s2:G1 = [vI G0]:=Y2; subst s2
 refine Ab (BE 1 g0 I q2 I I C2)<|AY I (G2 0 _ I)<|Ag I<|Ag I<|Aa<|du 17 fun b0 c0=>Rv 0 b0 I c0 (fun _=>Ak I)<|Rv 1 b0 I c0 (fun _=>Ak I)<|bk h fun y0 s3 h=>?_
 obtain ⟨X0,j1⟩:=aL s3
 obtain ⟨x1,R3,D0,K0,b4,Z2,H2⟩:=St.nth (α:=Tj) j0 .hd C0 j1
 obtain ⟨z1,U3,W0⟩:=Cb (α:=Tj) j0 .hd K0
 obtain rfl:x1 = ⟨z1,0,none⟩:=by rw [W0] at D0; cases D0; rfl
 obtain rfl:=fT Z2
 refine Rv 2 b0 I c0 (fun _=>BE 2 (G0.toNat) I D0 I X0 K0)<|Rv 3 b0 I c0 (fun _=>AS 0 I)<|Rx 4 245760 b0 I c0 (AN I (H2 0 _ I))<|Rv 5 b0 I c0 (fun _=>AS 3 I)<|Rx 6 259840 b0 I c0 (AN I ((j0.memA .t1) 3 _ I))<|Rv 7 b0 I c0 (fun _=>Ak I)<|bk h fun j5 t3 h=>?_
 obtain ⟨F3,V3,t2,D2,c4,b3,I2⟩:=Bw (Bb h0_3 j0) t3
 obtain ⟨R4,U4,V4,rfl,c3,I4,J4⟩:=ba b3
 refine Rv 8 b0 I c0 (fun _=>BE 6 g0 I t2 I I D2)<|Rv 9 b0 I c0 (fun _=>AS 2 I)<|Rx 10 258048 b0 I c0 (AN I (I2 2 _ I))<|Rv 11 b0 I c0 (fun _=>Ak I)<|bk h fun s1 u3 h=>?_
 obtain ⟨A2,v3⟩:=aL u3
 obtain ⟨G3,W3,u2,E2,H1,d3,J2⟩:=Bw c3 v3
 have v2:H1 = [vI s1]:=d3; subst v2
 refine Rv 12 b0 I c0 (fun _=>BE 1 (a3.toNat) I u2 I A2 E2)<|Rx 13 245760 b0 I c0 (AN I (J2 0 _ I))<|bk h fun P0 k3 h=>Rv 14 b0 I c0 (fun _=>BR (i:=y0.fJ) (j:=s1) I I k3)<|Rv 15 b0 I c0 (fun _=>BE 2 (G0.toNat) I D0 I X0 K0)<|Rv 16 b0 I c0 (fun _=>AS 0 I) ?_
 obtain ⟨X3,x2,C4,g4,g3,H4,g2⟩:=St.nthAt (α:=Tj) j0 .hd C0 j1 W0
 obtain rfl:=fT g3
 refine bk h fun C3 y3 h=>AT (i:=17) (rk b0) (RO.acts (m' :=262143) (sk b0) I I .plain (Acts.setPart (α:=Tj) (i:=G0.toNat) (tot:=0) (ds:=[vI y0.fJ,vI y0.fall]) (news:=[vI P0]) (full:=[vI P0,vI y0.fall]) y3 j0 x2 (fun _=>.hd) C0 g2 I I I I I I (mL P0 y0.fall) I (o1 I)) (fun d5 ⟨I1,Q1,V1,c2⟩=>?_))
 refine AO (dk b0)<|AI<|Av<|Ab (Bu (i:=g0) (j:=1) I I (by omega))<|Ae I<|Aa<|K1 (g0 + 1,C3,I1) Q1 (Tt U1 V1) c2 h
 refine Bj I ?_
 have h:=z2 _ h
 try dsimp only at h
 refine Ac<|Ae I<|Ag I<|Aa<|Ao I ?_
 have I0:=BI j0 .hd
 have x4:=BJ j0 .hd
 have j3:=BK (α:=Tj) (v:=(.slice (some ⟨q0,0,none⟩) a2.toNat a2.toNat)) (xs:=p0) I0 L (Bl (α:=Tj) j0 .hd C0 hL)
 refine Bi hb0 func41 I I ?_
 cases h
 exact ⟨I0.ag,fun p q=>aD ⟨(.slice (some ⟨q0,0,none⟩) a2.toNat a2.toNat),I,I0.kd j3 q⟩⟩
def bL_p (n:Nat) (a0:Tj):Oa (Except Tc Ta):=
  (if a0.fall = 0 then (ah_p n (0:Int) (1:Int)).bind fun d0=>exc d0 (fun g0=>some (.ok g0)) (fun b0=>some (.error b0)) else (ah_p n a0.fJ a0.fall).bind fun j0=>exc j0 (fun k0=>some (.ok k0)) (fun c0=>some (.error c0)))
theorem bL_c (n:Nat) {L w} (hL:hl L w) (a0:Tj)  {r:Except Tc Ta} (h:bL_p n a0 = some r) :
 Cl 42 #[.agg #[vI a0.fJ,vI a0.fall]] w (aK w (fun (y:Ta) _ u=>u = .agg ((aa y)).toArray) (fun e=>.iface 115 (.agg #[vI e.fE])) r):=by
 unfold bL_p at h
 refine BV func42 I I I fun _ cs0 hb0 hp0=>Ac<|RG.bx (AD w) I I fun I0 y0 s0 C0=>RG.nl ae s0 fun J0 z0 b0 D0=>Aa<|Aj<|Ac<|Ba 1 I<|AY I ((b0.memA .t1) 1 _ I)<|Ab (FV.eql (i:=a0.fall) (j:=0) I I)<|Aa<|Be I h (fun q0 h=>?_) (fun q0 h=>?_)
 refine Ac<|xk h (fun A0 c0 h=>?_) (fun g0 c0 h=>?_)
 refine BL (fst:=[]) (cap:=[]) .plain (bd 29) I (e2 I I) (fun p q=>ah_c n (b0.hL0 hL q)  c0) fun K0 v0=>?_
 obtain ⟨t0,E0⟩:=b0.agr v0
 cases h
 exact AE hp0 func42 ⟨t0.ag,I⟩
 refine Bm (.agg ((aa g0)).toArray) (bd 29) I (e2 I I) (fun p q=>AZ (ah_c n (b0.hL0 hL q)  c0)) I<|AW (aa g0) b0 .hd (ai I) fun M0 k0 F0=>Aa<|Ao I<|Au hb0 func42 I (.cons (.many (cs:=(aa g0)) I I (k0.memA .hd)) .nil) I ?_
 cases h
 exact ⟨k0.ag,fun p q=>aD I⟩
 refine Az<|Ac<|Ba 0 I<|AY I ((b0.memA .t1) 0 _ I)<|Ba 1 I<|AY I ((b0.memA .t1) 1 _ I)<|xk h (fun B0 d0 h=>?_) (fun j0 d0 h=>?_)
 refine BL (fst:=[]) (cap:=[]) .plain (bd 29) I (e2 I I) (fun p q=>ah_c n (b0.hL0 hL q)  d0) fun P0 x0=>?_
 obtain ⟨u0,G0⟩:=b0.agr x0
 cases h
 exact AE hp0 func42 ⟨u0.ag,I⟩
 refine Bm (.agg ((aa j0)).toArray) (bd 29) I (e2 I I) (fun p q=>AZ (ah_c n (b0.hL0 hL q)  d0)) I<|AW (aa j0) b0 .hd (ai I) fun Q0 p0 H0=>Aa<|Ao I<|Au hb0 func42 I (.cons (.many (cs:=(aa j0)) I I (p0.memA .hd)) .nil) I ?_
 cases h
 exact ⟨p0.ag,fun p q=>aD I⟩
def bX_l1 (n:Nat) (d0:La Tj) (g0:Nat × (La Ta) -> Oa ((Except Tc (La Ta)) ⊕ (La Ta))):Nat × (La Ta) -> Oa ((Except Tc (La Ta)) ⊕ (La Ta))
  | (b0,c0)=>(if b0 < d0.length then (d0[b0]?).bind fun k0=>(bL_p n k0).bind fun q0=>exc q0 (fun s0=>(app c0 ([s0]:La Ta)).bind fun p0=>g0 (b0 + 1,p0)) (fun j0=>some (.inl (.error j0))) else some (.inr c0))
def bX_p (n:Nat) (a0:Te) (a1:La Int) (a2:Int) (a3:Int):Oa (Except Tc (La Ta)):=
  (aS_p n a0 a1 a2 a3).bind fun y1=>exc y1 (fun d0=>thn (au (bX_l1 n d0) n (0,([]:La Ta))) (fun c0=>some (.ok c0))) (fun b0=>some (.error b0))
theorem bX_c (n:Nat) {L w} (hL:hl L w) (a0:Te) {v0_3:Vc} (h0_3:Rep.R w L [v0_3] a0.fv) {p0:Nat} (m0:∀ j9 v9,([vI a0.fl,vI a0.fj,vI a0.fm,v0_3]:La Vc)[j9]? = some v9 -> w.cell? ((⟨p0,0,none⟩:Addr).add j9) = some v9) {a1:La Int} {v1_0:Vc} (h1_0:Rep.R w L [v1_0] a1) {p1:Nat} (m1:∀ j9 v9,([v1_0]:La Vc)[j9]? = some v9 -> w.cell? ((⟨p1,0,none⟩:Addr).add j9) = some v9) {a2:Int} {p2:Nat} (m2:∀ j9 v9,([vI a2]:La Vc)[j9]? = some v9 -> w.cell? ((⟨p2,0,none⟩:Addr).add j9) = some v9) {a3:Int} {p3:Nat} (m3:∀ j9 v9,([vI a3]:La Vc)[j9]? = some v9 -> w.cell? ((⟨p3,0,none⟩:Addr).add j9) = some v9)  {r:Except Tc (La Ta)} (h:bX_p n a0 a1 a2 a3 = some r) :
 Cl 40 #[.pointer (some ⟨p0,0,none⟩),.pointer (some ⟨p1,0,none⟩),.pointer (some ⟨p2,0,none⟩),.pointer (some ⟨p3,0,none⟩)] w (aK w (fun (y:La Ta) w' u=>∃ v0_0:Vc,u = v0_0/\Rep.R w' L [v0_0] y) (fun e=>.iface 115 (.agg #[vI e.fE])) r):=by
 unfold bX_p at h
 have hS0:=AD w
 refine BV func40 I I I fun _ cs0 hb0 hp0=>Ac<|Ag I<|Aa<|Aj<|Ac<|Ab (AC I (fun j9 v9 h9=>hS0.ag.cell0 (m0 j9 v9 h9)))<|AY I ((fun j9 v9 h9=>hS0.ag.cell0 (m1 j9 v9 h9)) 0 _ I)<|AY I ((fun j9 v9 h9=>hS0.ag.cell0 (m2 j9 v9 h9)) 0 _ I)<|AY I ((fun j9 v9 h9=>hS0.ag.cell0 (m3 j9 v9 h9)) 0 _ I)<|xk h (fun G1 hy1 h=>?_) (fun t0 hy1 h=>?_)
 refine BL (fst:=[]) (cap:=[]) .plain (bd 41) I (e4 I I I I) (fun p q=>aS_c n (hS0.hL hL q) a0 (Ar h0_3 q) (Ar h1_0 q) hy1) fun U1 Y0=>?_
 obtain ⟨K0,I1⟩:=hS0.agr Y0
 cases h
 exact AE hp0 func40 ⟨K0.ag,I⟩
 refine jE (bd 41) I (e4 I I I I) (fun p q=>AZ (aS_c n (hS0.hL hL q) a0 (Ar h0_3 q) (Ar h1_0 q) hy1)) I fun b2 y1 b1 ⟨R1,hu_,x0⟩=>?_
 subst hu_
 obtain ⟨z0,M1⟩:=hS0.agr b1
 have P1:=Bh x0
 refine Ab (Bk (xs:=t0) underlying95 I x0)<|Ae I<|Aa<|AF ?_
 have A0:=z0.nilRow 46 (Rep.size Ta)
 refine tn h fun Q1 k1 E0=>MX.lf (α:=Nat × (La Ta) × Vc × (La Vc)) (fun ⟨b0,g0,d0,j0⟩=>[(4,d0),(11,y1),(12,vn t0.length),(13,vn b0)]) (fun ⟨b0,g0,d0,j0⟩=>[rr w 46 Ta d0 g0.length j0]) (fun ⟨b0,g0,d0,j0⟩ G0=>Cells G0 (bl [rr w 46 Ta d0 g0.length j0] ++ L) j0 g0) (fun ⟨b0,g0,d0,j0⟩=>(b0,g0)) (0,([]:La Ta),vN,[]) k1 A0 (AJ (cs:=[]) (xs:=([]:La Ta)) A0 L (AR _ _)) ?_
 rintro B1 ⟨b0,g0,d0,j0⟩ G0 J0 q0 B0 D0 h
 unfold bX_l1 at h
 try dsimp only at h
 refine Ac<|Ab (BD (i:=b0) (j:=t0.length) I I)<|Aa<|Aj<|Be I h (fun H0 h=>?_) (fun H0 h=>?_)
 refine Az<|Aj<|AF<|Ac<|bk h fun s0 u1 h=>?_
 obtain ⟨A1,E1,d1,g1,F1,q1,j1⟩:=Bw (Ap x0 (Tt (St.nilRowT z0 46 (Rep.size Ta)) B0)) u1
 obtain rfl:=fT q1
 refine Ab (BE 2 b0 I d1 I I g1)<|Ab (AC I j1)<|RG.nl [vI 0,vI 0] q0 fun V1 C1 M0 U0=>AW [vI s0.fJ,vI s0.fall] M0 .hd (ai I) fun W1 k0 V0=>Aa<|Av<|Ae I<|Ab (AC I (k0.memA .hd))<|xk h (fun H1 y0 h=>?_) (fun c0 y0 h=>?_)
 have h:=ar h E0
 refine BL (fst:=[]) (cap:=[]) .plain (bd 42) I (e1 I) (fun p q=>bL_c n (k0.hL0 hL q) s0 y0) fun X1 Z0=>?_
 obtain ⟨P0,J1⟩:=k0.agr Z0
 cases h
 exact AE hp0 func40 ⟨P0.ag,I⟩
 refine Bm (.agg ((aa c0)).toArray) (bd 42) I (e1 I) (fun p q=>AZ (bL_c n (k0.hL0 hL q) s0 y0)) I<|Ah .plain I (AU (α:=Ta) (xs:=([c0]:La Ta)) (vs:=[.agg ((aa c0)).toArray]) (ds' :=(aa c0)) I k0 eQ I (e1 I) (by kernel_rfl) I) fun Y1 D1 u0 W0=>bk h fun z1 v1 h=>?_
 have F0:=Tt U0 (Tt V0 W0)
 refine RG.doesL .plain I (BB (α:=Ta) (ys:=([c0]:La Ta)) v1 u0 (fun _ _=>.t2) eQ I I (AG D0 F0) (Src.row (α:=Ta) u0 .hd (AJ (cs:=(aa c0)) (xs:=(([c0]:La Ta):La Ta)) u0 L (AB (cs:=(aa c0)) (ds:=[]) (bD c0.fN c0.fD) (AR _ _))))) fun x1 Z1 ⟨I0,Q0,X0,c1⟩=>Ag I<|Aa<|AI<|Av<|Ab (Bu (i:=b0) (j:=1) I I (by omega))<|Ae I<|Aa ?_
 obtain ⟨R0,C0⟩:=Am Q0 .d2
 exact J0 (b0 + 1,z1,x1,I0) R0 (Tt B0 (Tt F0 (Tt X0 C0))) (AG c1 C0) h
 refine Bj I ?_
 have h:=aI h E0
 try dsimp only at h
 refine Ac<|Ae I<|Ag I<|Aa<|Ao I ?_
 have v0:=BI q0 .hd
 have K1:=BJ q0 .hd
 have s1:=BK (α:=Ta) (v:=d0) (xs:=g0) v0 L (Bl (α:=Ta) q0 .hd D0 hL)
 refine Bi hb0 func40 I I ?_
 cases h
 exact ⟨v0.ag,fun p q=>aD ⟨d0,I,v0.kd s1 q⟩⟩
def cQ_p (n:Nat) (a0:Te) (a1:La Int) (a2:Int) (a3:Int):Oa ((La Ta) × Int):=
  (bX_p n a0 a1 a2 a3).bind fun c0=>exc c0 (fun d0=>some (d0,(0:Int))) (fun b0=>some (([]:La Ta),b0.fE))
theorem cQ_c (n:Nat) {L w} (hL:hl L w) (a0:Te) {v0_3:Vc} (h0_3:Rep.R w L [v0_3] a0.fv) {a1:La Int} {v1_0:Vc} (h1_0:Rep.R w L [v1_0] a1) {a2:Int} {a3:Int}  {r:(La Ta) × Int} (h:cQ_p n a0 a1 a2 a3 = some r) :
 Cl 13 #[.agg #[vI a0.fl,vI a0.fj,vI a0.fm,v0_3],v1_0,vI a2,vI a3] w (aj w fun w' u=>∃ v0_0:Vc,u = .tuple #[v0_0,vI r.2]/\Rep.R w' L [v0_0] r.1):=by
 unfold cQ_p at h
 refine AK func13 I I I fun _ cs0 hb0=>Ac<|RG.bx (AD w) I I fun R1 g0 E0 D1=>RG.bx E0 I (Rep.c1 (Bb h1_0 E0)) fun Y1 j0 P0 E1=>RG.bx P0 I I fun Z1 k0 Q0 F1=>RG.bx Q0 I I fun b2 p0 R0 G1=>Ag I<|Ag I<|Aa<|Ac<|Ab (BX (vs:=[]) (us:=[vP g0,vP j0,vP k0,vP p0]) ak (e4 I I I I))<|BF (fst:=[]) (cap:=[]) (vs:=[.func (.func 40) #[] #[vP g0,vP j0,vP k0,vP p0]]) .plain (bd 39) func39 I I I I (e1 I) I fun z1 F0 P1=>Ac<|RG.nl [vN] R0 fun c2 q0 U0 H1=>RG.nl [vI 0] U0 fun d2 d0 b0 I1=>Aa<|Ac<|Ab (BX (vs:=[]) (us:=[vP q0,vP d0]) ak (e2 I I))<|RG.defer (fst:=[]) (cap:=[vP q0,vP d0]) (vs:=[]) I .plain I ak<|Aa<|Ac<|Ae I<|xk h (fun t0 A0 h=>?_) (fun q2 A0 h=>?_)
 refine BL (fst:=[]) (cap:=[vP g0,vP j0,vP k0,vP p0]) .plain (bd 40) I ak (fun p q=>bX_c n (b0.hL hL q) a0 (b0.km h0_3 q) (ao q (b0.memA .t5)) (b0.km h1_0 q) (ao q (b0.memA .t4)) (ao q (b0.memA .t3)) (ao q (b0.memA .t2)) A0) fun g2 j1=>?_
 obtain ⟨V0,J1⟩:=b0.agr j1
 refine PN.callD (vs:=[]) (cap:=[vP q0,vP d0]) (bd 77) func77 I I I fun y1 k1 q1=>Ac<|RG.recover1 .plain k1 I<|Ag I<|Aa<|Ac<|Ae I<|Ab (FV.neqI underlying20 I I)<|Aa<|Bg I<|Ac<|Ae I<|Ab (FV.assertT I I)<|Ae I<|Ab (Ai I I)<|Ab (Ai I I)<|RG.nl [vI 0] V0 fun j2 v1 W0 K1=>AW [vI t0.fE] W0 .hd (o1 I) fun k2 v0 M1=>Ag I<|Aa<|Aj<|Ac<|Ae I<|Ab (Bz I)<|Aa<|BP I<|Az<|Ac<|Ag I<|Aa<|du 3 fun c0 B0=>Rv 0 c0 I B0 (fun _=>Ak I)<|Rv 1 c0 I B0 (fun _=>AS 0 I)<|BH (α:=Unit) (fun ()=>[(1,vP d0),(19,vI t0.fE)]) (fun ()=>[.cells d0 [vI 0] 47,.cells q0 [vN] 55,.cells p0 [vI a3] 3,.cells k0 [vI a2] 3,.cells j0 [v1_0] 54,.cells g0 [vI a0.fl,vI a0.fj,vI a0.fm,v0_3] 31]) v0 1 15 ?_ ?_
 rintro ⟨⟩ p2 H0 A1
 try dsimp only
 refine Bv 4 31 c0 I I .plain (Ax (news:=[vI t0.fE]) H0 .hd I I I I I I (o1 I)) fun U1 s0 B1=>AO (dk c0)<|MX.fin I<|RT.leaveD1 q1 func77 I .nil<|Au (u:=.tuple #[vN,vI t0.fE]) F0 func39 I (.cons (.one I I ((s0.memA .t1) 0 _ I)) (.cons (.one I I ((s0.memA .hd) 0 _ I)) .nil)) I<|Ab (Ai I I)<|Ab (Ai I I)<|Ag I<|Ag I<|Aa<|Ao I ?_
 have s1:=Rep.nilAt (α:=Ta) s0 L
 refine Au hb0 func13 I (.cons (.tmp I) (.cons (.tmp I) .nil)) I ?_
 cases h
 exact ⟨s0.ag,fun p q=>⟨vN,I,s0.kd s1 q⟩⟩
 intro D0
 refine AM [2,3] (rk c0) ⟨?_,?_,trivial⟩
 refine AV (m' :=7) (sk c0) I .plain I (AN I ((v0.memA .hd) 0 _ I))<|Bv 3 15 c0 I I .plain (Ax (news:=[vN]) v0 .t2 I I I I I I (o1 I)) fun u1 x0 y0=>?_
 obtain ⟨I0,X0⟩:=Am x0 .d1
 exact D0 () I0 (Tt y0 X0)
 refine RO.now (m' :=11) (sk c0) I I .plain (Ax (news:=[vN]) v0 .t2 I I I I I I (o1 I)) fun u1 x0 y0=>Rx 2 16 c0 I B0 (AN I ((x0.memA .hd) 0 _ I)) ?_
 obtain ⟨J0,Y0⟩:=Am x0 .d1
 exact D0 () J0 (Tt y0 Y0)
 refine Bo (fst:=[]) (cap:=[vP g0,vP j0,vP k0,vP p0]) .plain (bd 40) I ak (fun p q=>AZ (bX_c n (b0.hL hL q) a0 (b0.km h0_3 q) (ao q (b0.memA .t5)) (b0.km h1_0 q) (ao q (b0.memA .t4)) (ao q (b0.memA .t3)) (ao q (b0.memA .t2)) A0)) I fun V1 C0 g1 ⟨Q1,hu_,z0⟩=>?_
 subst hu_
 obtain ⟨K0,C1⟩:=b0.agr g1
 refine BU .plain (Ax (news:=[C0]) K0 .t1 I I I (Rep.c1 z0) I I (o1 (AX z0))) fun W1 M0 Z0=>AW [vI 0] M0 .hd (o1 I) fun X1 u0 b1=>Aa<|Ao I<|RT.callD (vs:=[]) (cap:=[vP q0,vP d0]) (bd 77) func77 I I I fun x1 G0 p1=>Ac<|RG.recover0 .plain G0 I<|Ag I<|Aa<|Ac<|Ae I<|Ab (FV.neqI0 underlying20 I I)<|Aa<|BP I<|Az<|MX.fin I<|RT.leaveD0 G0 p1 func77 I .nil<|Au (u:=.tuple #[C0,vI 0]) F0 func39 I (.cons (.one I I ((u0.memA .t1) 0 _ I)) (.cons (.one I I ((u0.memA .hd) 0 _ I)) .nil)) I<|Ab (Ai I I)<|Ab (Ai I I)<|Ag I<|Ag I<|Aa<|Ao I<|Au hb0 func13 I (.cons (.tmp I) (.cons (.tmp I) .nil)) I ?_
 cases h
 exact ⟨u0.ag,fun p q=>⟨C0,I,u0.kd (Ap z0 (Tt Z0 b1)) q⟩⟩
def aQ_l1 (_n:Nat) (a0:La Ta) (a1:La Ta) (c0:Nat -> Oa (Bool ⊕ Unit)):Nat -> Oa (Bool ⊕ Unit)
  | b0=>(if b0 < a0.length then (a0[b0]?).bind fun d0=>(a1[b0]?).bind fun g0=>(if d0 = g0 then c0 (b0 + 1) else some (.inl false)) else some (.inr ()))
def aQ_p (n:Nat) (a0:La Ta) (a1:La Ta):Oa Bool:=
  (if a0.length = a1.length then thn (au (aQ_l1 n a0 a1) n 0) (fun _=>some true) else some false)
theorem aQ_c (n:Nat) {L w} (_hL:hl L w) {a0:La Ta} {v0_0:Vc} (h0_0:Rep.R w L [v0_0] a0) {a1:La Ta} {v1_0:Vc} (h1_0:Rep.R w L [v1_0] a1)  {r:Bool} (h:aQ_p n a0 a1 = some r) :
 Cl 14 #[v0_0,v1_0] w (aj w fun _ u=>u = .bool r):=by
 unfold aQ_p at h
 have hS0:=AD w
 refine AK func14 I I I fun _ cs0 hb0=>Ac<|Ag I<|Aa<|Aj<|Ac<|Ae I ?_
 have hl1:=Bh h0_0
 refine Ab (Bk (xs:=a0) underlying55 I h0_0)<|Ae I ?_
 have hl2:=Bh h1_0
 refine Ab (Bk (xs:=a1) underlying55 I h1_0)<|Ab (FV.neqN (i:=a0.length) (j:=a1.length) I I)<|Aa<|MX.ifn I h (fun c3 h=>?_) (fun c3 h=>?_)
 refine Az<|Aj<|Ac<|Ae I<|Ab (Bk (xs:=a0) underlying55 I h0_0)<|Ae I<|Aa<|AF<|tn h fun R0 C0 j0=>MX.lo (α:=Nat) (fun b0=>[(0,v0_0),(1,v1_0),(12,vn a0.length),(13,vn b0)]) (fun b0=>[]) (fun b0=>b0) 0 C0 hS0 ?_
 rintro J0 b0 U0 t0 g0 u0 h
 unfold aQ_l1 at h
 try dsimp only at h
 refine Ac<|Ab (BD (i:=b0) (j:=a0.length) I I)<|Aa<|Aj<|Be I h (fun q0 h=>?_) (fun q0 h=>?_)
 refine Az<|Aj<|AF<|Ac<|Ae I<|Ag I<|Aa<|Aj<|du 9 fun c0 d0=>Rv 0 c0 I d0 (fun _=>Ak I)<|Rv 1 c0 I d0 (fun _=>Ak I)<|bk h fun k0 F0 h=>?_
 obtain ⟨H0,K0,v0,y0,P0,D0,A0⟩:=Bw (Bb h0_0 g0) F0
 obtain rfl:=kW D0
 refine Rv 2 c0 I d0 (fun _=>BE 16 b0 I v0 I I y0)<|Rx 3 256 c0 I d0 (AC I A0)<|Rv 4 c0 I d0 (fun _=>Ak I)<|Rv 5 c0 I d0 (fun _=>Ak I)<|bk h fun p0 G0 h=>?_
 obtain ⟨I0,M0,x0,z0,Q0,E0,B0⟩:=Bw (Bb h1_0 g0) G0
 obtain rfl:=kW E0
 refine Rv 6 c0 I d0 (fun _=>BE 16 b0 I x0 I I z0)<|Rx 7 256 c0 I d0 (AC I B0)<|Rv 8 c0 I d0 (fun _=>FV.neqV (xs:=((aa k0)).toArray) (ys:=((aa p0)).toArray) I I (by kernel_rfl) (bG k0 p0))<|AO (dk c0)<|MX.ifn I h (fun s0 h=>?_) (fun s0 h=>?_)
 refine Az<|AI<|Av<|Ab (Bu (i:=b0) (j:=1) I I (by omega))<|Ae I<|Aa<|t0 (b0 + 1) g0 u0 h
 refine Ac<|Ag I<|Aa ?_
 have h:=ar h j0
 refine Ao I<|Bi hb0 func14 I I ?_
 cases h
 exact g0.gv
 refine Bj I ?_
 have h:=aI h j0
 try dsimp only at h
 refine Ac<|Ag I<|Aa<|Ao I<|Bi hb0 func14 I I ?_
 cases h
 exact g0.gv
 refine Ac<|Ag I<|Aa<|Ao I<|Bi hb0 func14 I I ?_
 cases h
 exact hS0.gv
def bb_p (n:Nat) (a0:Int) (a1:Int):Oa Ta:=
  (dA_p n a0 a1).bind fun b0=>some b0.1
theorem bb_c (n:Nat) {L w} (hL:hl L w) {a0:Int} {a1:Int}  {r:Ta} (h:bb_p n a0 a1 = some r) :
 Cl 15 #[vI a0,vI a1] w (aj w fun _ u=>u = .agg ((aa r)).toArray):=by
 unfold bb_p at h
 refine AK func15 I I I fun _ cs0 hb0=>Ac<|RG.nl ae (AD w) fun x0 p0 c0 s0=>Aa<|Ac<|Ae I<|Ae I<|bk h fun b0 k0 h=>Bm (.tuple #[.agg ((aa b0.1)).toArray,vI b0.2]) (bd 43) I (e2 I I) (fun p q=>dA_c n (c0.hL0 hL q)  k0) I<|Ae I<|Ab (Ai I I)<|Ab (Ai I I)<|RG.nl ae c0 fun y0 q0 j0 t0=>AW (aa b0.1) j0 .hd (ai I) fun z0 d0 u0=>Ag I<|Aa<|Ac<|Ab (AC I (d0.memA .hd))<|AW (aa b0.1) d0 .t1 (ai I) fun A0 g0 v0=>Aa<|Ao I<|Au hb0 func15 I (.cons (.many (cs:=(aa b0.1)) I I (g0.memA .t1)) .nil) I ?_
 cases h
 exact g0.gv
def bT_l1 (_n:Nat) (a0:La Int) (a1:La Int) (b0:Nat -> Oa (Bool ⊕ Unit)):Nat -> Oa (Bool ⊕ Unit)
  | i32=>(if i32 < a0.length then (a0[i32]?).bind fun c0=>(a1[i32]?).bind fun d0=>(if c0 = d0 then b0 (i32 + 1) else some (.inl false)) else some (.inr ()))
def bT_p (n:Nat) (a0:La Int) (a1:La Int):Oa Bool:=
  (if a0.length = a1.length then thn (au (bT_l1 n a0 a1) n 0) (fun _=>some true) else some false)
theorem bT_c (n:Nat) {L w} (_hL:hl L w) {a0:La Int} {v0_0:Vc} (h0_0:Rep.R w L [v0_0] a0) {a1:La Int} {v1_0:Vc} (h1_0:Rep.R w L [v1_0] a1)  {r:Bool} (h:bT_p n a0 a1 = some r) :
 Cl 45 #[v0_0,v1_0] w (aj w fun _ u=>u = .bool r):=by
 unfold bT_p at h
 have hS0:=AD w
 refine AK func45 I I I fun _ cs0 hb0=>Ac<|Ag I<|Aa<|Aj<|Ac<|Ae I ?_
 have hl1:=Bh h0_0
 refine Ab (Bk (xs:=a0) underlying34 I h0_0)<|Ae I ?_
 have hl2:=Bh h1_0
 refine Ab (Bk (xs:=a1) underlying34 I h1_0)<|Ab (FV.neqN (i:=a0.length) (j:=a1.length) I I)<|Aa<|MX.ifn I h (fun c3 h=>?_) (fun c3 h=>?_)
 refine Az<|Aj<|Ac<|Ae I<|Ab (Bk (xs:=a0) underlying34 I h0_0)<|Ae I<|Aa<|AF<|tn h fun U0 F0 g0=>MX.lo (α:=Nat) (fun i32=>[(0,v0_0),(1,v1_0),(12,vn a0.length),(13,vn i32)]) (fun i32=>[]) (fun i32=>i32) 0 F0 hS0 ?_
 rintro P0 i32 V0 u0 d0 v0 h
 unfold bT_l1 at h
 try dsimp only at h
 refine Ac<|Ab (BD (i:=i32) (j:=a0.length) I I)<|Aa<|Aj<|Be I h (fun p0 h=>?_) (fun p0 h=>?_)
 refine Az<|Aj<|AF<|Ac<|Ae I<|Ag I<|Aa<|Aj<|du 9 fun b0 c0=>Rv 0 b0 I c0 (fun _=>Ak I)<|Rv 1 b0 I c0 (fun _=>Ak I)<|bk h fun j0 I0 h=>?_
 obtain ⟨K0,Q0,x0,B0,s0,G0,D0⟩:=Bw (Bb h0_0 d0) I0
 have y0:s0 = [vI j0]:=G0; subst y0
 refine Rv 2 b0 I c0 (fun _=>BE 1 i32 I x0 I I B0)<|Rx 3 256 b0 I c0 (AN I (D0 0 _ I))<|Rv 4 b0 I c0 (fun _=>Ak I)<|Rv 5 b0 I c0 (fun _=>Ak I)<|bk h fun k0 J0 h=>?_
 obtain ⟨M0,R0,z0,C0,t0,H0,E0⟩:=Bw (Bb h1_0 d0) J0
 have A0:t0 = [vI k0]:=H0; subst A0
 refine Rv 6 b0 I c0 (fun _=>BE 1 i32 I z0 I I C0)<|Rx 7 256 b0 I c0 (AN I (E0 0 _ I))<|Rv 8 b0 I c0 (fun _=>FV.neq (i:=j0) (j:=k0) I I)<|AO (dk b0)<|MX.ifn I h (fun q0 h=>?_) (fun q0 h=>?_)
 refine Az<|AI<|Av<|Ab (Bu (i:=i32) (j:=1) I I (by omega))<|Ae I<|Aa<|u0 (i32 + 1) d0 v0 h
 refine Ac<|Ag I<|Aa ?_
 have h:=ar h g0
 refine Ao I<|Bi hb0 func45 I I ?_
 cases h
 exact d0.gv
 refine Bj I ?_
 have h:=aI h g0
 try dsimp only at h
 refine Ac<|Ag I<|Aa<|Ao I<|Bi hb0 func45 I I ?_
 cases h
 exact d0.gv
 refine Ac<|Ag I<|Aa<|Ao I<|Bi hb0 func45 I I ?_
 cases h
 exact hS0.gv
def cF_p (n:Nat) (a0:La Int) (a1:Int) (a2:La Int):Oa Bool:=
  (bT_p n a0 a2).bind fun y1=>(if y1 = true then some (decide (a1 = 0)) else some false)
theorem cF_c (n:Nat) {L w} (hL:hl L w) {a0:La Int} {v0_0:Vc} (h0_0:Rep.R w L [v0_0] a0) {a1:Int} {a2:La Int} {v2_0:Vc} (h2_0:Rep.R w L [v2_0] a2) {p2:Nat} (m2:∀ j9 v9,([v2_0]:La Vc)[j9]? = some v9 -> w.cell? ((⟨p2,0,none⟩:Addr).add j9) = some v9)  {r:Bool} (h:cF_p n a0 a1 a2 = some r) :
 Cl 44 #[v0_0,vI a1,.pointer (some ⟨p2,0,none⟩)] w (aj w fun _ u=>u = .bool r):=by
 unfold cF_p at h
 have hS0:=AD w
 refine AK func44 I I I fun _ cs0 hb0=>Ac<|Ag I<|Aa<|Ac<|Ae I<|AY I ((fun j9 v9 h9=>hS0.ag.cell0 (m2 j9 v9 h9)) 0 _ I)<|bk h fun y1 hy1 h=>Bm (.bool y1) (bd 45) I (e2 I I) (fun p q=>bT_c n (hS0.hL0 hL q) (hS0.kd h0_0 q) (hS0.kd h2_0 q) hy1) I<|Ae I<|RG.ifb (s:=9) I h (fun c2 h=>?_) (fun c2 h=>?_)
 refine AH (Ak I)<|AH (FV.eql (i:=a1) (j:=0) I I)<|Bq I I<|Ag I<|Aa<|Ao I<|Bi hb0 func44 I I ?_
 cases h
 exact hS0.gv
 refine Aw<|Aw<|By I I<|Ag I<|Aa<|Ao I<|Bi hb0 func44 I I ?_
 cases h
 exact hS0.gv
theorem dO_c (_n:Nat) {L w} (_hL:hl L w) (a0:La Int) {v0_0:Vc} (h0_0:Rep.R w L [v0_0] a0)  :
 Cl 16 #[v0_0] w (aj w fun w' u=>∃ b0:Nat,u = .func (.func 44) #[] #[vP b0]/\St w w' [.cells b0 [v0_0] 34]):=by
 refine AK func16 I I I fun _ cs0 hb0=>Ac<|RG.bx (AD w) I (Rep.c1 h0_0) fun g0 b0 c0 d0=>Ag I<|Aa<|Ac<|Ab (BX (vs:=[]) (us:=[vP b0]) ak (e1 I))<|Ag I<|Aa<|Ao I<|Au (u:=.func (.func 44) #[] #[vP b0]) hb0 func16 I (.cons (.tmp I) .nil) I<|⟨c0.ag,fun p q=>⟨b0,I,c0.agree q⟩⟩
def cL_p (_n:Nat) (a0:Int) (a1:Int):Oa (Except Tc Int):=
  (if a1 = 0 then some (.ok a0) else some (.error (⟨a1⟩:Tc)))
theorem cL_c (n:Nat) {L w} (_hL:hl L w) {a0:Int} {a1:Int}  {r:Except Tc Int} (h:cL_p n a0 a1 = some r) :
 Cl 52 #[vI a0,vI a1] w (aK w (fun (y:Int) _ u=>u = vI y) (fun e=>.iface 115 (.agg #[vI e.fE])) r):=by
 unfold cL_p at h
 have hS0:=AD w
 refine BV func52 I I I fun _ cs0 hb0 hp0=>Ac<|Ag I<|Aa<|Aj<|Ac<|Ae I<|Ab (FV.neq (i:=a1) (j:=0) I I)<|Aa<|MX.ifn I h (fun c1 h=>?_) (fun c1 h=>?_)
 refine Az<|Ac<|Ae I<|Ag I<|Aa<|Ao I<|Bi hb0 func52 I I ?_
 cases h
 exact ⟨hS0.ag,fun p q=>aD I⟩
 refine Av<|Ae I<|Ab (AP (vs:=[vI a1]) (u:=.agg #[vI a1]) (e1 I) (fun p=>by kernel_rfl))<|Ab (BO I I)<|RG.panic .plain I ?_
 cases h
 exact AE hp0 func52 ⟨hS0.ag,I⟩
def cR_p (n:Nat) (a0:Tg) (a1:Tg):Oa Int:=
  (aH_p n a0.fC a1.fA).bind fun b0=>(aH_p n a1.fC a0.fA).bind fun c0=>(cX_p n b0 c0).bind fun d0=>some d0
theorem cR_c (n:Nat) {L w} (hL:hl L w) (a0:Tg) {v0_1:Vc} (h0_1:Rep.R w L [v0_1] a0.fC.fu) {v0_3:Vc} (h0_3:Rep.R w L [v0_3] a0.fA.fu) (a1:Tg) {v1_1:Vc} (h1_1:Rep.R w L [v1_1] a1.fC.fu) {v1_3:Vc} (h1_3:Rep.R w L [v1_3] a1.fA.fu)  {r:Int} (h:cR_p n a0 a1 = some r) :
 Cl 89 #[.agg #[.bool a0.fC.fh,v0_1,.bool a0.fA.fh,v0_3],.agg #[.bool a1.fC.fh,v1_1,.bool a1.fA.fh,v1_3]] w (aj w fun _ u=>u = vI r):=by
 unfold cR_p at h
 refine AK func89 I I I fun _ cs0 hb0=>Ac<|RG.bx (AD w) I I fun M0 C0 k0 E0=>RG.bx k0 I I fun P0 D0 d0 F0=>Ag I<|Aa<|Aj<|du 12 fun b0 c0=>Rv 0 b0 I c0 (fun _=>AS 0 I)<|Rx 1 3600 b0 I c0 (Aq (cs:=[.bool a0.fC.fh,v0_1]) I I (ac (d0.memA .t1) 0 2))<|Rv 2 b0 I c0 (fun _=>AS 2 I)<|Rx 3 3600 b0 I c0 (Aq (cs:=[.bool a1.fA.fh,v1_3]) I I (ac (d0.memA .hd) 2 2))<|Rv 5 b0 I c0 (fun _=>AS 0 I)<|Rx 6 3584 b0 I c0 (Aq (cs:=[.bool a1.fC.fh,v1_1]) I I (ac (d0.memA .hd) 0 2))<|Rv 7 b0 I c0 (fun _=>AS 2 I)<|Rx 8 3584 b0 I c0 (Aq (cs:=[.bool a0.fA.fh,v0_3]) I I (ac (d0.memA .t1) 2 2))<|bk h fun z0 v0 h=>Bp 4 511 b0 I .plain (bd 123) I (e2 I I) (fun p q=>aH_c n (d0.hL hL q) a0.fC (d0.km h0_1 q) a1.fA (d0.km h1_3 q) v0) I fun Q0 J0 q0 ⟨H0,hu_,t0⟩=>?_
 subst hu_
 obtain ⟨g0,G0⟩:=d0.agr q0
 refine bk h fun A0 x0 h=>Bp 9 1023 b0 I .plain (bd 123) I (e2 I I) (fun p q=>aH_c n (g0.hL hL q) a1.fC (g0.km h1_1 q) a0.fA (g0.km h0_3 q) x0) I fun R0 K0 s0 ⟨I0,hu_,u0⟩=>?_
 subst hu_
 obtain ⟨j0,p0⟩:=g0.agr s0
 refine bk h fun B0 y0 h=>BQ 10 2047 2048 (vI B0) b0 I c0 (bd 87) I (e2 I I) (fun p q=>cX_c n (j0.hL0 hL q) z0 (j0.kd (Ap t0 p0) q) A0 (j0.kd u0 q) y0) I<|Rv 11 b0 I c0 (fun _=>Bn I)<|AO (dk b0)<|Ao I<|Bi hb0 func89 I I ?_
 cases h
 exact j0.gv
def dK_p (n:Nat) (a0:Ta) (a1:Ta):Oa (Int × Int):=
  (aV_p n ([a0,a1]:La Ta)).bind fun b0=>(if b0 = true then (aM_p n a0).bind fun c0=>(aM_p n a1).bind fun d0=>(cR_p n c0 d0).bind fun g0=>some (g0,(0:Int)) else some ((0:Int),(20:Int)))
theorem dK_c (n:Nat) {L w} (hL:hl L w) (a0:Ta) (a1:Ta)  {r:Int × Int} (h:dK_p n a0 a1 = some r) :
 Cl 53 #[.agg ((aa a0)).toArray,.agg ((aa a1)).toArray] w (aj w fun _ u=>u = .tuple #[vI r.1,vI r.2]):=by
 unfold dK_p at h
 refine AK func53 I I I fun _ cs0 hb0=>Ac<|RG.bx (AD w) I I fun u1 M0 v0 W0=>RG.bx v0 I I fun v1 P0 j0 X0=>Ag I<|Ag I<|Aa<|Ac<|Ab (AC I (j0.memA .t1))<|Ab (AC I (j0.memA .hd))<|BF (fst:=[]) (cap:=[]) (vs:=[.agg ((aa a0)).toArray,.agg ((aa a1)).toArray,.func (.func 89) #[] #[]]) .plain (bd 88) func88 I I I I (e3 I I I) I fun V0 s0 d1=>Ac<|RG.bx j0 I I fun x1 Q0 x0 Y0=>RG.bx x0 I I fun y1 R0 k0 Z0=>Ag I<|Ag I<|Aa<|Aj<|Ac<|Ab (AC I (k0.memA .t1))<|Ab (AC I (k0.memA .hd))<|Ah .plain I (AU (α:=Ta) (xs:=([a0,a1]:La Ta)) (vs:=[.agg ((aa a0)).toArray,.agg ((aa a1)).toArray]) (ds' :=(aa a0 ++ aa a1)) I k0 eQ I (e2 I I) (by kernel_rfl) I) fun z1 U0 c0 b1=>bk h fun I0 E0 h=>Bm (.bool I0) (bd 99) I (e1 I) (fun p q=>aV_c n (c0.hL0 hL q) (Ar (St.lend (α:=Ta) (L:=L) c0 .hd (AJ (cs:=(aa a0 ++ aa a1)) (xs:=(([a0,a1]:La Ta):La Ta)) c0 L (AB (cs:=(aa a0)) (ds:=(aa a1)) (bD a0.fN a0.fD) (AB (cs:=(aa a1)) (ds:=[]) (bD a1.fN a1.fD) (AR _ _)))) hL) q) E0) I<|Ab (Bz I)<|Aa<|MX.ifnb I h (fun u0 h=>?_) (fun u0 h=>?_)
 refine Az<|Aj<|du 8 fun b0 g0=>Rv 0 b0 I g0 (fun _=>Ak I)<|Rx 1 244 b0 I g0 (AC I (c0.memA .t2))<|Rx 3 240 b0 I g0 (AC I (c0.memA .t1))<|bk h fun J0 F0 h=>Bp 2 15 b0 I .plain (bd 84) I (e1 I) (fun p q=>aM_c n (c0.hL hL q) a0 F0) I fun A1 q1 y0 ⟨g1,j1,hu_,A0,B0⟩=>?_
 subst hu_
 obtain ⟨p0,c1⟩:=c0.agr y0
 refine bk h fun K0 G0 h=>Bp 4 31 b0 I .plain (bd 84) I (e1 I) (fun p q=>aM_c n (p0.hL hL q) a1 G0) I fun B1 s1 z0 ⟨k1,p1,hu_,C0,D0⟩=>?_
 subst hu_
 obtain ⟨d0,q0⟩:=p0.agr z0
 refine bk h fun t0 H0 h=>BQ 5 63 192 (vI t0) b0 I g0 (bd 89) I (e2 I I) (fun p q=>cR_c n (d0.hL0 hL q) J0 (d0.kd (Ap A0 q0) q) (d0.kd (Ap B0 q0) q) K0 (d0.kd C0 q) (d0.kd D0 q) H0) I<|Rv 6 b0 I g0 (fun _=>Bn I)<|Rv 7 b0 I g0 (fun _=>Bn I)<|AO (dk b0)<|Ao I<|Au (u:=.tuple #[vI t0,vI 0]) s0 func88 I (.cons (.tmp I) (.cons (.tmp I) .nil)) I<|Ab (Ai I I)<|Ab (Ai I I)<|Ag I<|Ag I<|Aa<|Ao I<|Au hb0 func53 I (.cons (.tmp I) (.cons (.tmp I) .nil)) I ?_
 cases h
 exact d0.gv
 refine Ac<|Ag I<|Aa<|Ac<|Ae I<|Ag I<|Ag I<|Aa<|Ao I<|Au (u:=.tuple #[vI 0,vI 20]) s0 func88 I (.cons (.tmp I) (.cons (.tmp I) .nil)) I<|Ab (Ai I I)<|Ab (Ai I I)<|Ag I<|Ag I<|Aa<|Ao I<|Au hb0 func53 I (.cons (.tmp I) (.cons (.tmp I) .nil)) I ?_
 cases h
 exact c0.gv
def cj_p (n:Nat) (a0:Tj) (a1:Ta):Oa (Except Tc Bool):=
  (bL_p n a0).bind fun g0=>exc g0 (fun j0=>(dK_p n j0 a1).bind fun b0=>(cL_p n b0.1 b0.2).bind fun k0=>exc k0 (fun p0=>some (.ok (decide (0 < p0)))) (fun d0=>some (.error d0))) (fun c0=>some (.error c0))
theorem cj_c (n:Nat) {L w} (hL:hl L w) (a0:Tj) (a1:Ta) {p1:Nat} (m1:∀ j9 v9,((aa a1):La Vc)[j9]? = some v9 -> w.cell? ((⟨p1,0,none⟩:Addr).add j9) = some v9)  {r:Except Tc Bool} (h:cj_p n a0 a1 = some r) :
 Cl 51 #[.agg #[vI a0.fJ,vI a0.fall],.pointer (some ⟨p1,0,none⟩)] w (aK w (fun (y:Bool) _ u=>u = .bool y) (fun e=>.iface 115 (.agg #[vI e.fE])) r):=by
 unfold cj_p at h
 refine BV func51 I I I fun _ cs0 hb0 hp0=>Ac<|RG.bx (AD w) I I fun E0 y0 c0 B0=>Ag I<|Aa<|Aj<|du 9 fun b0 d0=>Rx 0 506 b0 I d0 (AC I (c0.memA .hd))<|xk h (fun z0 g0 h=>?_) (fun k0 g0 h=>?_)
 refine Rx 2 504 b0 I d0 (AC I (fun j9 v9 h9=>c0.ag.cell0 (m1 j9 v9 h9)))<|AT (i:=1) (rk b0) (BC (fst:=[]) (cap:=[]) I .plain (bd 42) I (e1 I) (fun p q=>bL_c n (c0.hL0 hL q) a0 g0) (fun F0 u0=>?_))
 obtain ⟨s0,C0⟩:=c0.agr u0
 cases h
 exact AE hp0 func51 ⟨s0.ag,I⟩
 refine BQ 1 3 504 (.agg ((aa k0)).toArray) b0 I d0 (bd 42) I (e1 I) (fun p q=>AZ (bL_c n (c0.hL0 hL q) a0 g0)) I<|Rx 2 504 b0 I d0 (AC I (fun j9 v9 h9=>c0.ag.cell0 (m1 j9 v9 h9)))<|bk h fun p0 x0 h=>BQ 3 15 496 (.tuple #[vI p0.1,vI p0.2]) b0 I d0 (bd 53) I (e2 I I) (fun p q=>dK_c n (c0.hL0 hL q) k0 a1 x0) I<|Rv 4 b0 I d0 (fun _=>Ai I I)<|Rv 5 b0 I d0 (fun _=>Ai I I)<|xk h (fun A0 j0 h=>?_) (fun q0 j0 h=>?_)
 refine AT (i:=6) (rk b0) (BC (fst:=[]) (cap:=[]) I .plain (bd 52) I (e2 I I) (fun p q=>cL_c n (c0.hL0 hL q)  j0) (fun G0 v0=>?_))
 obtain ⟨t0,D0⟩:=c0.agr v0
 cases h
 exact AE hp0 func51 ⟨t0.ag,I⟩
 refine BQ 6 127 384 (vI q0) b0 I d0 (bd 52) I (e2 I I) (fun p q=>AZ (cL_c n (c0.hL0 hL q)  j0)) I<|Rv 7 b0 I d0 (fun _=>FV.gtr (i:=q0) (j:=0) I I)<|Rv 8 b0 I d0 (fun _=>Bn I)<|AO (dk b0)<|Ao I<|Bi hb0 func51 I I ?_
 cases h
 exact ⟨c0.ag,fun p q=>aD I⟩
def bM_l1 (n:Nat) (g0:La Tj) (a4:Ta) (d0:Nat × (La Int) -> Oa ((Except Tc (La Int)) ⊕ (La Int))):Nat × (La Int) -> Oa ((Except Tc (La Int)) ⊕ (La Int))
  | (b0,c0)=>(if b0 < g0.length then (g0[b0]?).bind fun k0=>(cj_p n k0 a4).bind fun q0=>exc q0 (fun s0=>(if s0 = true then (app c0 ([((b0:Nat):Int)]:La Int)).bind fun p0=>d0 (b0 + 1,p0) else d0 (b0 + 1,c0))) (fun j0=>some (.inl (.error j0))) else some (.inr c0))
def bM_p (n:Nat) (a0:Te) (a1:La Int) (a2:Int) (a3:Int) (a4:Ta):Oa (Except Tc (La Int)):=
  (aS_p n a0 a1 a2 a3).bind fun y1=>exc y1 (fun g0=>(dj_p n a4).bind fun b0=>(if b0 = 0 then thn (au (bM_l1 n g0 a4) n (0,([]:La Int))) (fun d0=>some (.ok d0)) else some (.error (⟨b0⟩:Tc)))) (fun c0=>some (.error c0))
theorem bM_c (n:Nat) {L w} (hL:hl L w) (a0:Te) {v0_3:Vc} (h0_3:Rep.R w L [v0_3] a0.fv) {p0:Nat} (m0:∀ j9 v9,([vI a0.fl,vI a0.fj,vI a0.fm,v0_3]:La Vc)[j9]? = some v9 -> w.cell? ((⟨p0,0,none⟩:Addr).add j9) = some v9) {a1:La Int} {v1_0:Vc} (h1_0:Rep.R w L [v1_0] a1) {p1:Nat} (m1:∀ j9 v9,([v1_0]:La Vc)[j9]? = some v9 -> w.cell? ((⟨p1,0,none⟩:Addr).add j9) = some v9) {a2:Int} {p2:Nat} (m2:∀ j9 v9,([vI a2]:La Vc)[j9]? = some v9 -> w.cell? ((⟨p2,0,none⟩:Addr).add j9) = some v9) {a3:Int} {p3:Nat} (m3:∀ j9 v9,([vI a3]:La Vc)[j9]? = some v9 -> w.cell? ((⟨p3,0,none⟩:Addr).add j9) = some v9) (a4:Ta) {p4:Nat} (m4:∀ j9 v9,((aa a4):La Vc)[j9]? = some v9 -> w.cell? ((⟨p4,0,none⟩:Addr).add j9) = some v9)  {r:Except Tc (La Int)} (h:bM_p n a0 a1 a2 a3 a4 = some r) :
 Cl 47 #[.pointer (some ⟨p0,0,none⟩),.pointer (some ⟨p1,0,none⟩),.pointer (some ⟨p2,0,none⟩),.pointer (some ⟨p3,0,none⟩),.pointer (some ⟨p4,0,none⟩)] w (aK w (fun (y:La Int) w' u=>∃ v0_0:Vc,u = v0_0/\Rep.R w' L [v0_0] y) (fun e=>.iface 115 (.agg #[vI e.fE])) r):=by
 unfold bM_p at h
 have hS0:=AD w
 refine BV func47 I I I fun _ cs0 hb0 hp0=>Ac<|Ag I<|Aa<|Ac<|Ab (AC I (fun j9 v9 h9=>hS0.ag.cell0 (m0 j9 v9 h9)))<|AY I ((fun j9 v9 h9=>hS0.ag.cell0 (m1 j9 v9 h9)) 0 _ I)<|AY I ((fun j9 v9 h9=>hS0.ag.cell0 (m2 j9 v9 h9)) 0 _ I)<|AY I ((fun j9 v9 h9=>hS0.ag.cell0 (m3 j9 v9 h9)) 0 _ I)<|xk h (fun Z1 hy1 h=>?_) (fun u0 hy1 h=>?_)
 refine BL (fst:=[]) (cap:=[]) .plain (bd 41) I (e4 I I I I) (fun p q=>aS_c n (hS0.hL hL q) a0 (Ar h0_3 q) (Ar h1_0 q) hy1) fun v2 k1=>?_
 obtain ⟨V0,c2⟩:=hS0.agr k1
 cases h
 exact AE hp0 func47 ⟨V0.ag,I⟩
 refine jE (bd 41) I (e4 I I I I) (fun p q=>AZ (aS_c n (hS0.hL hL q) a0 (Ar h0_3 q) (Ar h1_0 q) hy1)) I fun B2 K0 s1 ⟨u2,hu_,A0⟩=>?_
 subst hu_
 obtain ⟨k0,k2⟩:=hS0.agr s1
 refine Ag I<|Aa<|Ac<|Ab (AC I (fun j9 v9 h9=>k0.ag.cell0 (m4 j9 v9 h9)))<|bk h fun q0 I1 h=>Bm (vI q0) (bd 49) I (e1 I) (fun p q=>dj_c n (k0.hL0 hL q) a4 I1) I<|BF (fst:=[]) (cap:=[]) (vs:=[vI q0]) .plain (bd 48) func48 I I I I (e1 I) I fun X1 u1 C1=>Ac<|Ae I<|Ab (FV.neq (i:=q0) (j:=0) I I)<|Aa<|MX.ifn I h (fun R0 h=>?_) (fun R0 h=>?_)
 refine Az<|MX.fin I<|Au (u:=.tuple #[]) u1 func48 I .nil I<|Aa<|Ac<|Ae I<|Ab (BX (vs:=[]) (us:=[.pointer (some ⟨p4,0,none⟩)]) ak (e1 I))<|BF (fst:=[]) (cap:=[]) (vs:=[K0,.func (.func 51) #[] #[.pointer (some ⟨p4,0,none⟩)]]) .plain (bd 50) func50 I I I I (e2 I I) I fun Y1 v1 D1=>Ac<|Ag I<|Aa<|Aj<|Ac<|Ae I ?_
 have q2:=Bh A0
 refine Ab (Bk (xs:=u0) underlying95 I A0)<|Ae I<|Aa<|AF ?_
 have D0:=k0.nilRow 3 (Rep.size Int)
 refine tn h fun s2 B1 H0=>MX.lf (α:=Nat × (La Int) × Vc × (La Vc)) (fun ⟨b0,d0,c0,g0⟩=>[(1,.func (.func 51) #[] #[.pointer (some ⟨p4,0,none⟩)]),(4,c0),(7,K0),(8,vn u0.length),(9,vn b0)]) (fun ⟨b0,d0,c0,g0⟩=>[rr w 3 Int c0 d0.length g0]) (fun ⟨b0,d0,c0,g0⟩ M0=>Cells M0 (bl [rr w 3 Int c0 d0.length g0] ++ L) g0 d0) (fun ⟨b0,d0,c0,g0⟩=>(b0,d0)) (0,([]:La Int),vN,[]) B1 D0 (AJ (cs:=[]) (xs:=([]:La Int)) D0 L (AR _ _)) ?_
 rintro Q1 ⟨b0,d0,c0,g0⟩ M0 C0 s0 y0 z0 h
 unfold bM_l1 at h
 try dsimp only at h
 refine Ac<|Ab (BD (i:=b0) (j:=u0.length) I I)<|Aa<|Aj<|Be I h (fun P0 h=>?_) (fun P0 h=>?_)
 refine Az<|Aj<|AF<|Ac<|Ae I<|bk h fun t0 G1 h=>?_
 obtain ⟨P1,V1,y1,z1,W1,E1,A1⟩:=Bw (Ap A0 (Tt (St.nilRowT k0 3 (Rep.size Int)) y0)) G1
 obtain rfl:=fT E1
 refine Ab (BE 2 b0 I y1 I I z1)<|Ab (AC I A1)<|RG.nl [vI 0,vI 0] s0 fun x2 R1 W0 E0=>Ag I<|AW [vI t0.fJ,vI t0.fall] W0 .hd (ai I) fun y2 j0 F0=>Aa<|Ac<|Ae I<|Ab (AC I (j0.memA .hd))<|xk h (fun b2 B0 h=>?_) (fun M1 B0 h=>?_)
 have h:=ar h H0
 refine BL (fst:=[]) (cap:=[.pointer (some ⟨p4,0,none⟩)]) .plain (bd 51) I (e1 I) (fun p q=>cj_c n (j0.hL0 hL q) t0 a4 (ao q (fun j9 v9 h9=>j0.ag.cell0 (m4 j9 v9 h9))) B0) fun z2 q1=>?_
 obtain ⟨X0,g2⟩:=j0.agr q1
 refine AE D1 func50 ?_
 cases h
 exact AE hp0 func47 ⟨X0.ag,I⟩
 refine RG.callq' (v:=.bool M1) (fst:=[]) (cap:=[.pointer (some ⟨p4,0,none⟩)]) .plain (bd 51) I (e1 I) (fun p q=>AZ (cj_c n (j0.hL0 hL q) t0 a4 (ao q (fun j9 v9 h9=>j0.ag.cell0 (m4 j9 v9 h9))) B0)) I<|Aa<|MX.ifb I h (fun Q0 h=>?_) (fun Q0 h=>?_)
 refine Av<|Ae I<|Ae I<|Ah .plain I (AU (α:=Int) (xs:=([((b0:Nat):Int)]:La Int)) (vs:=[vn b0]) (ds' :=[vn b0]) I j0 aA I (e1 I) (by kernel_rfl) I) fun A2 U1 v0 c1=>bk h fun K1 H1 h=>?_
 have I0:=Tt E0 (Tt F0 c1)
 refine RG.doesL .plain I (BB (α:=Int) (ys:=([((b0:Nat):Int)]:La Int)) H1 v0 (fun _ _=>.t2) aA I I (AG z0 I0) (Src.row (α:=Int) v0 .hd (AJ (cs:=[vn b0]) (xs:=(([((b0:Nat):Int)]:La Int):La Int)) v0 L (AB (cs:=[vn b0]) (ds:=[]) I (AR _ _))))) fun J1 C2 ⟨U0,Y0,g1,x1⟩=>Ag I<|Aa<|AI<|Av<|Ab (Bu (i:=b0) (j:=1) I I (by omega))<|Ae I<|Aa ?_
 obtain ⟨Z0,G0⟩:=Am Y0 .d2
 exact C0 (b0 + 1,K1,J1,U0) Z0 (Tt y0 (Tt I0 (Tt g1 G0))) (AG x1 G0) h
 refine Az<|AI<|Av<|Ab (Bu (i:=b0) (j:=1) I I (by omega))<|Ae I<|Aa ?_
 obtain ⟨b1,j1⟩:=Am j0 .d1
 have J0:=Tt E0 (Tt F0 j1)
 exact C0 (b0 + 1,d0,c0,g0) b1 (Tt y0 J0) (AG z0 J0) h
 refine Bj I ?_
 have h:=aI h H0
 try dsimp only at h
 refine Ac<|Ae I<|Ag I<|Aa<|Ao I<|Au (u:=c0) v1 func50 I (.cons (.tmp I) .nil) I<|Ag I<|Aa<|Ao I ?_
 have x0:=BI s0 .hd
 have j2:=BJ s0 .hd
 have F1:=BK (α:=Int) (v:=c0) (xs:=d0) x0 L (Bl (α:=Int) s0 .hd z0 hL)
 refine Bi hb0 func47 I I ?_
 cases h
 exact ⟨x0.ag,fun p q=>aD ⟨c0,I,x0.kd F1 q⟩⟩
 refine Av<|Ae I<|Ab (AP (vs:=[vI q0]) (u:=.agg #[vI q0]) (e1 I) (fun p=>by kernel_rfl))<|Ab (BO I I)<|RG.panic .plain I<|AE C1 func48 ?_
 cases h
 exact AE hp0 func47 ⟨k0.ag,I⟩

def dl_p (n:Nat) (a0:Te) (a1:La Int) (a2:Int) (a3:Int) (a4:Ta):Oa ((La Int) × Int):=
  (bM_p n a0 a1 a2 a3 a4).bind fun c0=>exc c0 (fun d0=>some (d0,(0:Int))) (fun b0=>some (([]:La Int),b0.fE))
theorem dl_c (n:Nat) {L w} (hL:hl L w) (a0:Te) {v0_3:Vc} (h0_3:Rep.R w L [v0_3] a0.fv) {a1:La Int} {v1_0:Vc} (h1_0:Rep.R w L [v1_0] a1) {a2:Int} {a3:Int} (a4:Ta)  {r:(La Int) × Int} (h:dl_p n a0 a1 a2 a3 a4 = some r) :
 Cl 17 #[.agg #[vI a0.fl,vI a0.fj,vI a0.fm,v0_3],v1_0,vI a2,vI a3,.agg ((aa a4)).toArray] w (aj w fun w' u=>∃ v0_0:Vc,u = .tuple #[v0_0,vI r.2]/\Rep.R w' L [v0_0] r.1):=by
 unfold dl_p at h
 refine AK func17 I I I fun _ cs0 hb0=>Ac<|RG.bx (AD w) I I fun W1 g0 F0 F1=>RG.bx F0 I (Rep.c1 (Bb h1_0 F0)) fun c2 j0 Q0 G1=>RG.bx Q0 I I fun d2 k0 R0 H1=>RG.bx R0 I I fun g2 p0 U0 I1=>RG.bx U0 I I fun w32 q0 V0 J1=>Ag I<|Ag I<|Aa<|Ac<|Ab (BX (vs:=[]) (us:=[vP g0,vP j0,vP k0,vP p0,vP q0]) ak (e5 I I I I I))<|BF (fst:=[]) (cap:=[]) (vs:=[.func (.func 47) #[] #[vP g0,vP j0,vP k0,vP p0,vP q0]]) .plain (bd 46) func46 I I I I (e1 I) I fun B1 G0 U1=>Ac<|RG.nl [vN] V0 fun j2 s0 W0 K1=>RG.nl [vI 0] W0 fun k2 d0 b0 M1=>Aa<|Ac<|Ab (BX (vs:=[]) (us:=[vP s0,vP d0]) ak (e2 I I))<|RG.defer (fst:=[]) (cap:=[vP s0,vP d0]) (vs:=[]) I .plain I ak<|Aa<|Ac ?_
 refine Ae I<|xk h (fun u0 B0 h=>?_) (fun v2 B0 h=>?_)
 refine BL (fst:=[]) (cap:=[vP g0,vP j0,vP k0,vP p0,vP q0]) .plain (bd 47) I ak (fun p q=>bM_c n (b0.hL hL q) a0 (b0.km h0_3 q) (ao q (b0.memA .t6)) (b0.km h1_0 q) (ao q (b0.memA .t5)) (ao q (b0.memA .t4)) (ao q (b0.memA .t3)) a4 (ao q (b0.memA .t2)) B0) fun p2 p1=>?_
 obtain ⟨X0,P1⟩:=b0.agr p1
 refine PN.callD (vs:=[]) (cap:=[vP s0,vP d0]) (bd 82) func82 I I I fun A1 q1 u1=>Ac<|RG.recover1 .plain q1 I<|Ag I<|Aa<|Ac<|Ae I<|Ab (FV.neqI underlying20 I I)<|Aa<|Bg I<|Ac<|Ae I<|Ab (FV.assertT I I)<|Ae I<|Ab (Ai I I)<|Ab (Ai I I)<|RG.nl [vI 0] X0 fun q2 y1 Y0 Q1=>AW [vI u0.fE] Y0 .hd (o1 I) fun s2 x0 R1=>Ag I<|Aa<|Aj<|Ac<|Ae I<|Ab (Bz I)<|Aa<|BP I<|Az<|Ac<|Ag I<|Aa<|du 3 fun c0 C0=>Rv 0 c0 I C0 (fun _=>Ak I)<|Rv 1 c0 I C0 (fun _=>AS 0 I)<|BH (α:=Unit) (fun ()=>[(1,vP d0),(19,vI u0.fE)]) (fun ()=>[.cells d0 [vI 0] 47,.cells s0 [vN] 34,.cells q0 (aa a4) 46,.cells p0 [vI a3] 3,.cells k0 [vI a2] 3,.cells j0 [v1_0] 54,.cells g0 [vI a0.fl,vI a0.fj,vI a0.fm,v0_3] 31]) x0 1 15 ?_ ?_
 rintro ⟨⟩ u2 I0 C1
 try dsimp only
 refine Bv 4 31 c0 I I .plain (Ax (news:=[vI u0.fE]) I0 .hd I I I I I I (o1 I)) fun X1 t0 D1=>AO (dk c0)<|MX.fin I<|RT.leaveD1 u1 func82 I .nil<|Au (u:=.tuple #[vN,vI u0.fE]) G0 func46 I (.cons (.one I I ((t0.memA .t1) 0 _ I)) (.cons (.one I I ((t0.memA .hd) 0 _ I)) .nil)) I<|Ab (Ai I I)<|Ab (Ai I I)<|Ag I<|Ag I<|Aa<|Ao I ?_
 have v1:=Rep.nilAt (α:=Int) t0 L
 refine Au hb0 func17 I (.cons (.tmp I) (.cons (.tmp I) .nil)) I ?_
 cases h
 exact ⟨t0.ag,fun p q=>⟨vN,I,t0.kd v1 q⟩⟩
 intro E0
 refine AM [2,3] (rk c0) ⟨?_,?_,trivial⟩
 refine AV (m' :=7) (sk c0) I .plain I (AN I ((x0.memA .hd) 0 _ I))<|Bv 3 15 c0 I I .plain (Ax (news:=[vN]) x0 .t2 I I I I I I (o1 I)) fun x1 y0 z0=>?_
 obtain ⟨J0,Z0⟩:=Am y0 .d1
 exact E0 () J0 (Tt z0 Z0)
 refine RO.now (m' :=11) (sk c0) I I .plain (Ax (news:=[vN]) x0 .t2 I I I I I I (o1 I)) fun x1 y0 z0=>Rx 2 16 c0 I C0 (AN I ((y0.memA .hd) 0 _ I)) ?_
 obtain ⟨K0,b1⟩:=Am y0 .d1
 exact E0 () K0 (Tt z0 b1)
 refine Bo (fst:=[]) (cap:=[vP g0,vP j0,vP k0,vP p0,vP q0]) .plain (bd 47) I ak (fun p q=>AZ (bM_c n (b0.hL hL q) a0 (b0.km h0_3 q) (ao q (b0.memA .t6)) (b0.km h1_0 q) (ao q (b0.memA .t5)) (ao q (b0.memA .t4)) (ao q (b0.memA .t3)) a4 (ao q (b0.memA .t2)) B0)) I fun Y1 D0 k1 ⟨V1,hu_,A0⟩=>?_
 subst hu_
 obtain ⟨M0,E1⟩:=b0.agr k1
 refine BU .plain (Ax (news:=[D0]) M0 .t1 I I I (Rep.c1 A0) I I (o1 (AX A0))) fun Z1 P0 g1=>AW [vI 0] P0 .hd (o1 I) fun b2 v0 j1=>Aa<|Ao I<|RT.callD (vs:=[]) (cap:=[vP s0,vP d0]) (bd 82) func82 I I I fun z1 H0 s1=>Ac<|RG.recover0 .plain H0 I<|Ag I<|Aa<|Ac<|Ae I<|Ab (FV.neqI0 underlying20 I I)<|Aa<|BP I<|Az<|MX.fin I<|RT.leaveD0 H0 s1 func82 I .nil<|Au (u:=.tuple #[D0,vI 0]) G0 func46 I (.cons (.one I I ((v0.memA .t1) 0 _ I)) (.cons (.one I I ((v0.memA .hd) 0 _ I)) .nil)) I<|Ab (Ai I I)<|Ab (Ai I I)<|Ag I<|Ag I<|Aa<|Ao I<|Au hb0 func17 I (.cons (.tmp I) (.cons (.tmp I) .nil)) I ?_
 cases h
 exact ⟨v0.ag,fun p q=>⟨D0,I,v0.kd (Ap A0 (Tt g1 j1)) q⟩⟩
def cm_p (n:Nat) (a0:Ta) (a1:Int) (a2:Int) (a3:Int):Oa Bool:=
  (bb_p n a2 a3).bind fun b0=>(if a0 = b0 then some (decide (a1 = 0)) else some false)
theorem cm_c (n:Nat) {L w} (hL:hl L w) (a0:Ta) {a1:Int} {a2:Int} {p2:Nat} (m2:∀ j9 v9,([vI a2]:La Vc)[j9]? = some v9 -> w.cell? ((⟨p2,0,none⟩:Addr).add j9) = some v9) {a3:Int} {p3:Nat} (m3:∀ j9 v9,([vI a3]:La Vc)[j9]? = some v9 -> w.cell? ((⟨p3,0,none⟩:Addr).add j9) = some v9)  {r:Bool} (h:cm_p n a0 a1 a2 a3 = some r) :
 Cl 54 #[.agg ((aa a0)).toArray,vI a1,.pointer (some ⟨p2,0,none⟩),.pointer (some ⟨p3,0,none⟩)] w (aj w fun _ u=>u = .bool r):=by
 unfold cm_p at h
 refine AK func54 I I I fun _ cs0 hb0=>Ac<|RG.bx (AD w) I I fun s0 p0 d0 q0=>Ag I<|Aa<|Aj<|du 10 fun b0 c0=>Rx 0 1008 b0 I c0 (AC I (d0.memA .hd))<|Rx 1 1016 b0 I c0 (AN I ((fun j9 v9 h9=>d0.ag.cell0 (m2 j9 v9 h9)) 0 _ I))<|Rx 2 1016 b0 I c0 (AN I ((fun j9 v9 h9=>d0.ag.cell0 (m3 j9 v9 h9)) 0 _ I))<|bk h fun g0 k0 h=>BQ 3 15 1008 (.agg ((aa g0)).toArray) b0 I c0 (bd 15) I (e2 I I) (fun p q=>bb_c n (d0.hL0 hL q)  k0) I<|Rv 4 b0 I c0 (fun _=>FV.eqlV (v:=.agg ((aa a0)).toArray) (u:=.agg ((aa g0)).toArray) I I (bG a0 g0))<|Rv 5 b0 I c0 (fun _=>Ak I)<|RD.ifd (s:=12) I h (fun j0 h=>?_) (fun j0 h=>?_)
 refine RD.vP 6 127 b0 I c0 (.yes I I) (fun _=>Ak I) I<|RD.vP 7 255 b0 I c0 (.yes I I) (fun _=>FV.eql (i:=a1) (j:=0) I I) I<|Rv 8 b0 I c0 (fun _=>BY I I)<|Rv 9 b0 I c0 (fun _=>Bn I)<|AO (dk b0)<|Ao I<|Bi hb0 func54 I I ?_
 cases h
 exact d0.gv
 refine BS 255 2 [(6,13),(7,14)] (F:=[(12,false)]) (U:=[]) b0 c0 (.cons I .nil) .nil ?_
 dsimp only [bg,List.map]
 refine Rv 8 b0 I c0 (fun _=>BA I I)<|Rv 9 b0 I c0 (fun _=>Bn I)<|AO (dk b0)<|Ao I<|Bi hb0 func54 I I ?_
 cases h
 exact d0.gv
theorem dL_c (_n:Nat) {L w} (_hL:hl L w) (a0:Int) (a1:Int)  :
 Cl 18 #[vI a0,vI a1] w (aj w fun w' u=>∃ b0 c0:Nat,u = .func (.func 54) #[] #[vP b0,vP c0]/\St w w' [.cells b0 [vI a0] 3,.cells c0 [vI a1] 3]):=by
 refine AK func18 I I I fun _ cs0 hb0=>Ac<|RG.bx (AD w) I I fun t0 b0 j0 p0=>RG.bx j0 I I fun u0 c0 k0 q0=>Ag I<|Aa<|Ac<|Ab (BX (vs:=[]) (us:=[vP b0,vP c0]) ak (e2 I I))<|Ag I<|Aa<|Ao I<|Au (u:=.func (.func 54) #[] #[vP b0,vP c0]) hb0 func18 I (.cons (.tmp I) .nil) I ?_
 obtain ⟨g0,s0⟩:=Am k0 (.a1 .d0)
 exact ⟨g0.ag,fun p q=>⟨b0,c0,I,g0.agree q⟩⟩
def de_p (n:Nat) (a0:Tg) (a1:Tg):Oa Tg:=
  (cR_p n a0 a1).bind fun b0=>(if b0 <= 0 then some a0 else some a1)
theorem de_c (n:Nat) {L w} (hL:hl L w) (a0:Tg) {v0_1:Vc} (h0_1:Rep.R w L [v0_1] a0.fC.fu) {v0_3:Vc} (h0_3:Rep.R w L [v0_3] a0.fA.fu) (a1:Tg) {v1_1:Vc} (h1_1:Rep.R w L [v1_1] a1.fC.fu) {v1_3:Vc} (h1_3:Rep.R w L [v1_3] a1.fA.fu)  {r:Tg} (h:de_p n a0 a1 = some r) :
 Cl 124 #[.agg #[.bool a0.fC.fh,v0_1,.bool a0.fA.fh,v0_3],.agg #[.bool a1.fC.fh,v1_1,.bool a1.fA.fh,v1_3]] w (aj w fun w' u=>∃ v0_1 v0_3:Vc,u = .agg #[.bool r.fC.fh,v0_1,.bool r.fA.fh,v0_3]/\Rep.R w' L [v0_1] r.fC.fu/\Rep.R w' L [v0_3] r.fA.fu):=by
 unfold de_p at h
 refine AK func124 I I I fun _ cs0 hb0=>Ac<|RG.bx (AD w) I I fun C0 t0 p0 x0=>RG.bx p0 I I fun D0 u0 q0 y0=>RG.nl [.bool false,vN,.bool false,vN] q0 fun E0 v0 b0 z0=>Aa<|Aj<|Ac<|Ab (AC I (b0.memA .t2))<|Ab (AC I (b0.memA .t1))<|bk h fun g0 s0 h=>Bm (vI g0) (bd 89) I (e2 I I) (fun p q=>cR_c n (b0.hL0 hL q) a0 (b0.k0 h0_1 q) (b0.k0 h0_3 q) a1 (b0.k0 h1_1 q) (b0.k0 h1_3 q) s0) I<|Ab (FV.leq (i:=g0) (j:=0) I I)<|Aa<|Be I h (fun j0 h=>?_) (fun j0 h=>?_)
 refine Ac<|Ab (AC I (b0.memA .t2))<|AW [.bool a0.fC.fh,v0_1,.bool a0.fA.fh,v0_3] b0 .hd (o4 I (AX (Bb h0_1 b0)) I (AX (Bb h0_3 b0))) fun F0 c0 A0=>Aa<|Ao I<|Au hb0 func124 I (.cons (.many (cs:=[.bool a0.fC.fh,v0_1,.bool a0.fA.fh,v0_3]) I I (c0.memA .hd)) .nil) I ?_
 cases h
 exact ⟨c0.ag,fun p q=>⟨v0_1,v0_3,I,c0.k0 h0_1 q,c0.k0 h0_3 q⟩⟩
 refine Az<|Ac<|Ab (AC I (b0.memA .t1))<|AW [.bool a1.fC.fh,v1_1,.bool a1.fA.fh,v1_3] b0 .hd (o4 I (AX (Bb h1_1 b0)) I (AX (Bb h1_3 b0))) fun G0 d0 B0=>Aa<|Ao I<|Au hb0 func124 I (.cons (.many (cs:=[.bool a1.fC.fh,v1_1,.bool a1.fA.fh,v1_3]) I I (d0.memA .hd)) .nil) I ?_
 cases h
 exact ⟨d0.ag,fun p q=>⟨v1_1,v1_3,I,d0.k0 h1_1 q,d0.k0 h1_3 q⟩⟩
def cS_p (n:Nat) (a0:Tg) (a1:Tg):Oa Tg:=
  (aU_p n a0).bind fun b0=>(aU_p n a1).bind fun c0=>(de_p n b0 c0).bind fun d0=>(aU_p n d0).bind fun g0=>some g0
theorem cS_c (n:Nat) {L w} (hL:hl L w) (a0:Tg) {v0_1:Vc} (h0_1:Rep.R w L [v0_1] a0.fC.fu) {v0_3:Vc} (h0_3:Rep.R w L [v0_3] a0.fA.fu) (a1:Tg) {v1_1:Vc} (h1_1:Rep.R w L [v1_1] a1.fC.fu) {v1_3:Vc} (h1_3:Rep.R w L [v1_3] a1.fA.fu)  {r:Tg} (h:cS_p n a0 a1 = some r) :
 Cl 93 #[.agg #[.bool a0.fC.fh,v0_1,.bool a0.fA.fh,v0_3],.agg #[.bool a1.fC.fh,v1_1,.bool a1.fA.fh,v1_3]] w (aj w fun w' u=>∃ v0_1 v0_3:Vc,u = .agg #[.bool r.fC.fh,v0_1,.bool r.fA.fh,v0_3]/\Rep.R w' L [v0_1] r.fC.fu/\Rep.R w' L [v0_3] r.fA.fu):=by
 unfold cS_p at h
 refine AK func93 I I I fun _ cs0 hb0=>Ac<|RG.bx (AD w) I I fun D1 Y0 z0 c1=>RG.bx z0 I I fun E1 Z0 A0 d1=>RG.nl [.bool false,vN,.bool false,vN] A0 fun F1 b1 c0 g1=>Aa<|Aj<|du 6 fun b0 y0=>Rx 0 122 b0 I y0 (AC I (c0.memA .t2))<|Rx 2 120 b0 I y0 (AC I (c0.memA .t1))<|bk h fun V0 P0 h=>Bp 1 7 b0 I .plain (bd 94) I (e1 I) (fun p q=>aU_c n (c0.hL hL q) a0 (c0.km h0_1 q) (c0.km h0_3 q) P0) I fun G1 z1 C0 ⟨q1,s1,hu_,G0,H0⟩=>?_
 subst hu_
 obtain ⟨d0,j1⟩:=c0.agr C0
 refine bk h fun W0 Q0 h=>Bp 3 15 b0 I .plain (bd 94) I (e1 I) (fun p q=>aU_c n (d0.hL hL q) a1 (d0.km h1_1 q) (d0.km h1_3 q) Q0) I fun H1 A1 D0 ⟨u1,v1,hu_,I0,J0⟩=>?_
 subst hu_
 obtain ⟨q0,t0⟩:=d0.agr D0
 refine bk h fun X0 R0 h=>Bp 4 31 b0 I .plain (bd 124) I (e2 I I) (fun p q=>de_c n (q0.hL hL q) V0 (Ar (Ap G0 t0) q) (Ar (Ap H0 t0) q) W0 (Ar I0 q) (Ar J0 q) R0) I fun I1 B1 E0 ⟨x1,y1,hu_,K0,M0⟩=>?_
 subst hu_
 obtain ⟨s0,k1⟩:=q0.agr E0
 refine bk h fun j0 U0 h=>Bp 5 63 b0 I .plain (bd 94) I (e1 I) (fun p q=>aU_c n (s0.hL hL q) X0 (Ar K0 q) (Ar M0 q) U0) I fun J1 C1 F0 ⟨k0,p0,hu_,v0,x0⟩=>?_
 subst hu_
 obtain ⟨B0,p1⟩:=s0.agr F0
 refine Bv 6 127 b0 I I .plain (Ax (news:=[.bool j0.fC.fh,k0,.bool j0.fA.fh,p0]) B0 .hd I I I I I I (o4 I (AX v0) I (AX x0))) fun K1 g0 u0=>AO (dk b0)<|Ao I<|Au hb0 func93 I (.cons (.many (cs:=[.bool j0.fC.fh,k0,.bool j0.fA.fh,p0]) I I (g0.memA .hd)) .nil) I ?_
 cases h
 exact ⟨g0.ag,fun p q=>⟨k0,p0,I,g0.kd (Ap v0 u0) q,g0.kd (Ap x0 u0) q⟩⟩
def dI_p (n:Nat) (a0:Tg) (_a1:Tg):Oa Tg:=
  (aU_p n a0).bind fun b0=>(cS_p n a0 b0).bind fun c0=>some c0
theorem dI_c (n:Nat) {L w} (hL:hl L w) (a0:Tg) {v0_1:Vc} (h0_1:Rep.R w L [v0_1] a0.fC.fu) {v0_3:Vc} (h0_3:Rep.R w L [v0_3] a0.fA.fu) (a1:Tg) {v1_1:Vc} (_h1_1:Rep.R w L [v1_1] a1.fC.fu) {v1_3:Vc} (_h1_3:Rep.R w L [v1_3] a1.fA.fu)  {r:Tg} (h:dI_p n a0 a1 = some r) :
 Cl 92 #[.agg #[.bool a0.fC.fh,v0_1,.bool a0.fA.fh,v0_3],.agg #[.bool a1.fC.fh,v1_1,.bool a1.fA.fh,v1_3]] w (aj w fun w' u=>∃ v0_1 v0_3:Vc,u = .agg #[.bool r.fC.fh,v0_1,.bool r.fA.fh,v0_3]/\Rep.R w' L [v0_1] r.fC.fu/\Rep.R w' L [v0_3] r.fA.fu):=by
 unfold dI_p at h
 refine AK func92 I I I fun _ cs0 hb0=>Ac<|RG.bx (AD w) I I fun X0 G0 v0 J0=>RG.bx v0 I I fun Y0 H0 x0 K0=>RG.nl [.bool false,vN,.bool false,vN] x0 fun Z0 I0 b0 M0=>Aa<|Aj<|du 4 fun c0 u0=>Rx 0 24 c0 I u0 (AC I (b0.memA .t2))<|Rx 1 28 c0 I u0 (AC I (b0.memA .t2))<|bk h fun F0 D0 h=>Bp 2 7 c0 I .plain (bd 94) I (e1 I) (fun p q=>aU_c n (b0.hL hL q) a0 (b0.km h0_1 q) (b0.km h0_3 q) D0) I fun b1 V0 z0 ⟨R0,U0,hu_,B0,C0⟩=>?_
 subst hu_
 obtain ⟨d0,P0⟩:=b0.agr z0
 refine bk h fun j0 E0 h=>Bp 3 15 c0 I .plain (bd 93) I (e2 I I) (fun p q=>cS_c n (d0.hL hL q) a0 (d0.km h0_1 q) (d0.km h0_3 q) F0 (Ar B0 q) (Ar C0 q) E0) I fun c1 W0 A0 ⟨k0,p0,hu_,s0,t0⟩=>?_
 subst hu_
 obtain ⟨y0,Q0⟩:=d0.agr A0
 refine Bv 4 31 c0 I I .plain (Ax (news:=[.bool j0.fC.fh,k0,.bool j0.fA.fh,p0]) y0 .hd I I I I I I (o4 I (AX s0) I (AX t0))) fun d1 g0 q0=>AO (dk c0)<|Ao I<|Au hb0 func92 I (.cons (.many (cs:=[.bool j0.fC.fh,k0,.bool j0.fA.fh,p0]) I I (g0.memA .hd)) .nil) I ?_
 cases h
 exact ⟨g0.ag,fun p q=>⟨k0,p0,I,g0.kd (Ap s0 q0) q,g0.kd (Ap t0 q0) q⟩⟩
def dM_p (n:Nat) (a0:Ta):Oa (Ta × Int):=
  (aV_p n ([a0,a0]:La Ta)).bind fun d0=>(if d0 = true then (aM_p n a0).bind fun g0=>(aM_p n a0).bind fun j0=>(dI_p n g0 j0).bind fun k0=>(aY_p n k0 (0:Int)).bind fun b0=>some (b0.1,b0.2) else (aY_p n (⟨(⟨false,([]:La Ua)⟩:Th),(⟨false,([]:La Ua)⟩:Th)⟩:Tg) (20:Int)).bind fun c0=>some (c0.1,c0.2))
theorem dM_c (n:Nat) {L w} (hL:hl L w) (a0:Ta)  {r:Ta × Int} (h:dM_p n a0 = some r) :
 Cl 57 #[.agg ((aa a0)).toArray] w (aj w fun _ u=>u = .tuple #[.agg ((aa r.1)).toArray,vI r.2]):=by
 unfold dM_p at h
 refine AK func57 I I I fun _ cs0 hb0=>Ac<|RG.bx (AD w) I I fun b2 q1 I0 C1=>RG.nl ae I0 fun c2 s1 q0 D1=>Ag I<|Aa<|Ac<|Ab (AC I (q0.memA .t1))<|Ab (AC I (q0.memA .t1))<|BF (fst:=[]) (cap:=[]) (vs:=[.agg ((aa a0)).toArray,.agg ((aa a0)).toArray,.func (.func 92) #[] #[]]) .plain (bd 91) func91 I I I I (e3 I I I) I fun A1 E0 Q1=>Ac<|RG.bx q0 I I fun d2 u1 J0 E1=>RG.bx J0 I I fun g2 v1 K0 F1=>RG.nl [.bool false,vN,.bool false,vN] K0 fun j2 x1 s0 G1=>Ag I<|Aa<|Aj<|Ac<|Ab (AC I (s0.memA .t2))<|Ab (AC I (s0.memA .t1))<|Ah .plain I (AU (α:=Ta) (xs:=([a0,a0]:La Ta)) (vs:=[.agg ((aa a0)).toArray,.agg ((aa a0)).toArray]) (ds' :=(aa a0 ++ aa a0)) I s0 eQ I (e2 I I) (by kernel_rfl) I) fun k2 y1 c0 H1=>bk h fun j1 Y0 h=>Bm (.bool j1) (bd 99) I (e1 I) (fun p q=>aV_c n (c0.hL0 hL q) (Ar (St.lend (α:=Ta) (L:=L) c0 .hd (AJ (cs:=(aa a0 ++ aa a0)) (xs:=(([a0,a0]:La Ta):La Ta)) c0 L (AB (cs:=(aa a0)) (ds:=(aa a0)) (bD a0.fN a0.fD) (AB (cs:=(aa a0)) (ds:=[]) (bD a0.fN a0.fD) (AR _ _)))) hL) q) Y0) I<|Ab (Bz I)<|Aa<|MX.ifnb I h (fun H0 h=>?_) (fun H0 h=>?_)
 refine Az<|Aj<|du 6 fun b0 j0=>Rv 0 b0 I j0 (fun _=>Ak I)<|Rx 1 244 b0 I j0 (AC I (c0.memA .t3))<|Rx 3 240 b0 I j0 (AC I (c0.memA .t2))<|bk h fun k1 Z0 h=>Bp 2 15 b0 I .plain (bd 84) I (e1 I) (fun p q=>aM_c n (c0.hL hL q) a0 Z0) I fun p2 X1 P0 ⟨R1,U1,hu_,U0,V0⟩=>?_
 subst hu_
 obtain ⟨x0,I1⟩:=c0.agr P0
 refine bk h fun p1 b1 h=>Bp 4 31 b0 I .plain (bd 84) I (e1 I) (fun p q=>aM_c n (x0.hL hL q) a0 b1) I fun q2 Y1 Q0 ⟨V1,W1,hu_,W0,X0⟩=>?_
 subst hu_
 obtain ⟨y0,C0⟩:=x0.agr Q0
 refine bk h fun d0 c1 h=>Bp 5 63 b0 I .plain (bd 92) I (e2 I I) (fun p q=>dI_c n (y0.hL hL q) k1 (Ar (Ap U0 C0) q) (Ar (Ap V0 C0) q) p1 (Ar W0 q) (Ar X0 q) c1) I fun s2 Z1 R0 ⟨u0,v0,hu_,F0,G0⟩=>?_
 subst hu_
 obtain ⟨M0,J1⟩:=y0.agr R0
 refine Bv 6 127 b0 I I .plain (Ax (news:=[.bool d0.fC.fh,u0,.bool d0.fA.fh,v0]) M0 .t1 I I I I I I (o4 I (AX F0) I (AX G0))) fun u2 g0 D0=>Rv 7 b0 I j0 (fun _=>Bn I)<|AO (dk b0)<|Ao I<|Au (u:=.tuple #[.agg #[.bool d0.fC.fh,u0,.bool d0.fA.fh,v0],vI 0]) E0 func91 I (.cons (.many (cs:=[.bool d0.fC.fh,u0,.bool d0.fA.fh,v0]) I I (g0.memA .t1)) (.cons (.tmp I) .nil)) I<|Ab (Ai I I)<|Ab (Ai I I)<|bk h fun k0 d1 h=>Bm (.tuple #[.agg ((aa k0.1)).toArray,vI k0.2]) (bd 90) I (e2 I I) (fun p q=>aY_c n (g0.hL0 hL q) d0 (g0.kd (Ap F0 D0) q) (g0.kd (Ap G0 D0) q) d1) I<|Ab (Ai I I)<|Ab (Ai I I)<|AW (aa k0.1) g0 .t4 (ai I) fun v2 z0 K1=>Ag I<|Aa<|Ao I<|Au hb0 func57 I (.cons (.many (cs:=(aa k0.1)) I I (z0.memA .t4)) (.cons (.tmp I) .nil)) I ?_
 cases h
 exact z0.gv
 refine Ac<|RG.nl [.bool false,vN,.bool false,vN] c0 fun x2 z1 A0 M1=>Aa<|Ac<|Ab (AC I (A0.memA .hd))<|AW [.bool false,vN,.bool false,vN] A0 .t2 (ai I) fun y2 t0 P1=>Ag I<|Aa<|Ao I<|Au (u:=.tuple #[.agg #[.bool false,vN,.bool false,vN],vI 20]) E0 func91 I (.cons (.many (cs:=[.bool false,vN,.bool false,vN]) I I (t0.memA .t2)) (.cons (.tmp I) .nil)) I<|Ab (Ai I I)<|Ab (Ai I I)<|bk h fun p0 g1 h=>Bm (.tuple #[.agg ((aa p0.1)).toArray,vI p0.2]) (bd 90) I (e2 I I) (fun p q=>aY_c n (t0.hL0 hL q) (⟨(⟨false,([]:La Ua)⟩:Th),(⟨false,([]:La Ua)⟩:Th)⟩:Tg) (Ar (Rep.nilSlice _ _) q) (Ar (Rep.nilSlice _ _) q) g1) I<|Ab (Ai I I)<|Ab (Ai I I)<|AW (aa p0.1) t0 .t5 (ai I) fun z2 B0 B1=>Ag I<|Aa<|Ao I<|Au hb0 func57 I (.cons (.many (cs:=(aa p0.1)) I I (B0.memA .t5)) (.cons (.tmp I) .nil)) I ?_
 cases h
 exact B0.gv
def cW_l1 (n:Nat) (a0:La Ta) (d0:Nat × Ta -> Oa ((Except Tc Ta) ⊕ Ta)):Nat × Ta -> Oa ((Except Tc Ta) ⊕ Ta)
  | (b0,c0)=>(if b0 < a0.length then (a0[b0]?).bind fun j0=>(bm_p n c0 j0).bind fun k0=>exc k0 (fun p0=>d0 (b0 + 1,p0)) (fun g0=>some (.inl (.error g0))) else some (.inr c0))
def cW_p (n:Nat) (a0:La Ta):Oa (Except Tc Ta):=
  (ah_p n (0:Int) (1:Int)).bind fun d0=>exc d0 (fun g0=>thn (au (cW_l1 n a0) n (0,g0)) (fun c0=>some (.ok c0))) (fun b0=>some (.error b0))
theorem cW_c (n:Nat) {L w} (hL:hl L w) {a0:La Ta} {v0_0:Vc} (h0_0:Rep.R w L [v0_0] a0)  {r:Except Tc Ta} (h:cW_p n a0 = some r) :
 Cl 58 #[v0_0] w (aK w (fun (y:Ta) _ u=>u = .agg ((aa y)).toArray) (fun e=>.iface 115 (.agg #[vI e.fE])) r):=by
 unfold cW_p at h
 refine BV func58 I I I fun _ cs0 hb0 hp0=>Ac<|RG.nl ae (AD w) fun D1 u0 g0 v1=>Aa<|Ac<|xk h (fun s1 p0 h=>?_) (fun t0 p0 h=>?_)
 refine BL (fst:=[]) (cap:=[]) .plain (bd 29) I (e2 I I) (fun p q=>ah_c n (g0.hL0 hL q)  p0) fun J1 U0=>?_
 obtain ⟨H0,y1⟩:=g0.agr U0
 cases h
 exact AE hp0 func58 ⟨H0.ag,I⟩
 refine Bm (.agg ((aa t0)).toArray) (bd 29) I (e2 I I) (fun p q=>AZ (ah_c n (g0.hL0 hL q)  p0)) I<|RG.nl ae g0 fun K1 v0 I0 z1=>AW (aa t0) I0 .hd (ai I) fun M1 y0 A1=>Aa<|Aj<|Ac<|Ae I ?_
 have A0:=Bb h0_0 y0
 have B1:=Bh A0
 refine Ab (Bk (xs:=a0) underlying55 I A0)<|Ae I<|Aa<|AF<|tn h fun C1 Y0 z0=>MX.lo (α:=Nat × Ta) (fun ⟨b0,c0⟩=>[(2,vP u0),(3,vP v0),(7,v0_0),(8,vn a0.length),(9,vn b0)]) (fun ⟨b0,c0⟩=>[.cells v0 (aa c0) 46,.cells u0 ae 46]) (fun ⟨b0,c0⟩=>(b0,c0)) (0,t0) Y0 y0 ?_
 rintro g1 ⟨b0,c0⟩ P1 C0 j0 Q0 h
 unfold cW_l1 at h
 try dsimp only at h
 refine Ac<|Ab (BD (i:=b0) (j:=a0.length) I I)<|Aa<|Aj<|Be I h (fun B0 h=>?_) (fun B0 h=>?_)
 refine Az<|Aj<|AF<|Ac<|bk h fun q0 b1 h=>?_
 obtain ⟨c1,k1,V0,W0,p1,Z0,X0⟩:=Bw (Bb h0_0 j0) b1
 obtain rfl:=kW Z0
 refine Ab (BE 16 b0 I V0 I I W0)<|Ab (AC I X0)<|RG.nl ae j0 fun E1 j1 D0 J0=>AW (aa q0) D0 .hd (ai I) fun F1 d0 K0=>Aa<|Av<|Ab (AC I (d0.memA .t1))<|Ab (AC I (d0.memA .hd))<|xk h (fun q1 k0 h=>?_) (fun s0 k0 h=>?_)
 have h:=ar h z0
 refine BL (fst:=[]) (cap:=[]) .plain (bd 63) I (e2 I I) (fun p q=>bm_c n (d0.hL0 hL q) c0 q0 k0) fun G1 R0=>?_
 obtain ⟨E0,u1⟩:=d0.agr R0
 cases h
 exact AE hp0 func58 ⟨E0.ag,I⟩
 refine Bm (.agg ((aa s0)).toArray) (bd 63) I (e2 I I) (fun p q=>AZ (bm_c n (d0.hL0 hL q) c0 q0 k0)) I<|AW (aa s0) d0 .t1 (ai I) fun H1 F0 M0=>Aa<|AI<|Av<|Ab (Bu (i:=b0) (j:=1) I I (by omega))<|Ae I<|Aa ?_
 obtain ⟨G0,P0⟩:=Am F0 .d1
 exact C0 (b0 + 1,s0) G0 (Tt Q0 (Tt J0 (Tt K0 (Tt M0 P0)))) h
 refine Bj I ?_
 have h:=aI h z0
 try dsimp only at h
 refine Ac<|Ab (AC I (j0.memA .hd))<|AW (aa c0) j0 .t1 (ai I) fun I1 x0 x1=>Aa<|Ao I<|Au hb0 func58 I (.cons (.many (cs:=(aa c0)) I I (x0.memA .t1)) .nil) I ?_
 cases h
 exact ⟨x0.ag,fun p q=>aD I⟩
def bG_l1 (n:Nat) (j0:La Tj) (d0:Int) (p0:Int) (q0:Nat × (La Ta) -> Oa ((Except Tc Ta) ⊕ (La Ta))):Nat × (La Ta) -> Oa ((Except Tc Ta) ⊕ (La Ta))
  | (c0,g0)=>(if c0 < j0.length then (j0[c0]?).bind fun b0=>(ah_p n b0.fJ d0).bind fun A0=>exc A0 (fun B0=>(chk (b0.fall - b0.fJ)).bind fun x0=>(chk (p0 - d0)).bind fun y0=>(ah_p n x0 y0).bind fun C0=>exc C0 (fun D0=>(bt_p n B0 D0).bind fun E0=>exc E0 (fun F0=>(dM_p n F0).bind fun k0=>(al_p n k0.1 k0.2).bind fun G0=>exc G0 (fun H0=>(app g0 ([H0]:La Ta)).bind fun z0=>q0 (c0 + 1,z0)) (fun v0=>some (.inl (.error v0)))) (fun u0=>some (.inl (.error u0)))) (fun t0=>some (.inl (.error t0)))) (fun s0=>(chk (b0.fall - b0.fJ)).bind fun _s325=>(chk (p0 - d0)).bind fun _s326=>some (.inl (.error s0))) else some (.inr g0))
def bG_l2 (_n:Nat) (d0:La Tj) (k0:Nat × Int × Int -> Oa (Int × Int)):Nat × Int × Int -> Oa (Int × Int)
  | (b0,g0,j0)=>(if b0 < d0.length then (d0[b0]?).bind fun c0=>(chk (g0 + c0.fJ)).bind fun p0=>(chk (j0 + c0.fall)).bind fun q0=>k0 (b0 + 1,p0,q0) else some (g0,j0))
def bG_p (n:Nat) (a0:Te) (a1:La Int) (a2:Int) (a3:Int):Oa (Except Tc Ta):=
  (aS_p n a0 a1 a2 a3).bind fun s0=>exc s0 (fun c0=>Option.bind (au (bG_l2 n c0) n (0,0,0)) (fun (b0,d0)=>(if b0 = 0 then some (.error (⟨(7:Int)⟩:Tc)) else (if b0 = d0 then some (.error (⟨(7:Int)⟩:Tc)) else thn (au (bG_l1 n c0 b0 d0) n (0,([]:La Ta))) (fun q0=>(cW_p n q0).bind fun t0=>exc t0 (fun u0=>(ah_p n (2:Int) (1:Int)).bind fun v0=>exc v0 (fun x0=>(bp_p n u0 x0).bind fun y0=>exc y0 (fun z0=>some (.ok z0)) (fun p0=>some (.error p0))) (fun k0=>some (.error k0))) (fun j0=>some (.error j0))))))) (fun g0=>some (.error g0))
theorem bG_c (n:Nat) {L w} (hL:hl L w) (a0:Te) {v0_3:Vc} (h0_3:Rep.R w L [v0_3] a0.fv) {p0:Nat} (m0:∀ j9 v9,([vI a0.fl,vI a0.fj,vI a0.fm,v0_3]:La Vc)[j9]? = some v9 -> w.cell? ((⟨p0,0,none⟩:Addr).add j9) = some v9) {a1:La Int} {v1_0:Vc} (h1_0:Rep.R w L [v1_0] a1) {p1:Nat} (m1:∀ j9 v9,([v1_0]:La Vc)[j9]? = some v9 -> w.cell? ((⟨p1,0,none⟩:Addr).add j9) = some v9) {a2:Int} {p2:Nat} (m2:∀ j9 v9,([vI a2]:La Vc)[j9]? = some v9 -> w.cell? ((⟨p2,0,none⟩:Addr).add j9) = some v9) {a3:Int} {p3:Nat} (m3:∀ j9 v9,([vI a3]:La Vc)[j9]? = some v9 -> w.cell? ((⟨p3,0,none⟩:Addr).add j9) = some v9)  {r:Except Tc Ta} (h:bG_p n a0 a1 a2 a3 = some r) :
 Cl 55 #[.pointer (some ⟨p0,0,none⟩),.pointer (some ⟨p1,0,none⟩),.pointer (some ⟨p2,0,none⟩),.pointer (some ⟨p3,0,none⟩)] w (aK w (fun (y:Ta) _ u=>u = .agg ((aa y)).toArray) (fun e=>.iface 115 (.agg #[vI e.fE])) r):=by
 unfold bG_p at h
 refine BV func55 I I I fun _ cs0 hb0 hp0=>Ac<|RG.nl ae (AD w) fun V4 C0 q0 t4=>Aa<|Ac<|Ab (AC I (fun j9 v9 h9=>q0.ag.cell0 (m0 j9 v9 h9)))<|AY I ((fun j9 v9 h9=>q0.ag.cell0 (m1 j9 v9 h9)) 0 _ I)<|AY I ((fun j9 v9 h9=>q0.ag.cell0 (m2 j9 v9 h9)) 0 _ I)<|AY I ((fun j9 v9 h9=>q0.ag.cell0 (m3 j9 v9 h9)) 0 _ I)<|xk h (fun c4 U0 h=>?_) (fun A0 U0 h=>?_)
 refine BL (fst:=[]) (cap:=[]) .plain (bd 41) I (e4 I I I I) (fun p q=>aS_c n (q0.hL hL q) a0 (q0.km h0_3 q) (q0.km h1_0 q) U0) fun b5 E2=>?_
 obtain ⟨U1,u4⟩:=q0.agr E2
 cases h
 exact AE hp0 func55 ⟨U1.ag,I⟩
 refine jE (bd 41) I (e4 I I I I) (fun p q=>AZ (aS_c n (q0.hL hL q) a0 (q0.km h0_3 q) (q0.km h1_0 q) U0)) I fun c5 j1 F2 ⟨U4,hu_,I0⟩=>?_
 subst hu_
 obtain ⟨V1,v4⟩:=q0.agr F2
 refine Ag I<|Aa<|Ac<|RG.nl [vI 0,vI 0] V1 fun d5 D0 X1 H0=>Aa<|Aj<|Ac<|Ae I ?_
 have B1:=Ap I0 H0
 have I4:=Bh B1
 refine Ab (Bk (xs:=A0) underlying95 I B1)<|Ae I<|Aa<|AF ?_
 obtain ⟨J4,c3,W2⟩:=av h
 refine MX.lo (α:=Nat × Int × Int) (fun ⟨u0,j0,g0⟩=>[(4,vP C0),(5,j1),(6,vP D0),(17,j1),(18,vn A0.length),(19,vn u0)]) (fun ⟨u0,j0,g0⟩=>[.cells D0 [vI j0,vI g0] 98,.cells C0 ae 46]) (fun ⟨u0,j0,g0⟩=>(u0,j0,g0)) (0,0,0) c3 X1 ?_
 rintro J3 ⟨u0,j0,g0⟩ A5 K1 v0 G0 h
 unfold bG_l2 at h
 try dsimp only at h
 refine Ac<|Ab (BD (i:=u0) (j:=A0.length) I I)<|Aa<|Aj<|Be I h (fun F1 h=>?_) (fun F1 h=>?_)
 refine Az<|Aj<|AF<|Ac<|bk h fun J0 B3 h=>?_
 obtain ⟨H3,R3,U2,X2,V3,s3,Z2⟩:=Bw (Ap I0 (Tt H0 G0)) B3
 obtain rfl:=fT s3
 refine Ab (BE 2 u0 I U2 I I X2)<|Ab (AC I Z2)<|RG.nl [vI 0,vI 0] v0 fun W4 M3 P1 u2=>AW [vI J0.fJ,vI J0.fall] P1 .hd (ai I) fun X4 M0 v2=>Aa<|Ac<|Ba 0 I<|AY I ((M0.memA .t1) 0 _ I)<|Ba 0 I<|AY I ((M0.memA .hd) 0 _ I)<|bk h fun F0 u3 h=>Ab (BR (i:=j0) (j:=J0.fJ) I I u3)<|Ba 0 I<|BU .plain (Bs (j:=0) (old:=[vI j0,vI g0]) (news:=[vI F0]) (new' :=[vI F0,vI g0]) M0 .t1 I I I I I I (o1 I) I) fun Y4 P0 x2=>Aa<|Av<|Ba 1 I<|AY I ((P0.memA .t1) 1 _ I)<|Ba 1 I<|AY I ((P0.memA .hd) 1 _ I)<|bk h fun g1 v3 h=>Ab (BR (i:=g0) (j:=J0.fall) I I v3)<|Ba 1 I<|BU .plain (Bs (j:=1) (old:=[vI F0,vI g0]) (news:=[vI g1]) (new' :=[vI F0,vI g1]) P0 .t1 I I I I I I (o1 I) I) fun Z4 Q1 y2=>Aa<|AI<|Av<|Ab (Bu (i:=u0) (j:=1) I I (by omega))<|Ae I<|Aa ?_
 obtain ⟨R1,z2⟩:=Am Q1 .d1
 exact K1 (u0 + 1,F0,g1) R1 (Tt G0 (Tt u2 (Tt v2 (Tt x2 (Tt y2 z2))))) h
 refine Bj I ?_
 have h:=W2 _ h
 try dsimp only at h
 refine Ac<|Ba 0 I<|AY I ((v0.memA .hd) 0 _ I)<|Ab (FV.eql (i:=j0) (j:=0) I I)<|Ae I<|BG (s:=39) I h (fun G1 h=>?_) (fun G1 h=>?_)
 refine Aw<|Aw<|Aw<|Aw<|Aw<|Bq I I<|BF (fst:=[]) (cap:=[]) (vs:=[.bool true,vI 7]) .plain (bd 37) func37 I I I I (e2 I I) I fun W3 F4 g3=>Ac<|Ae I<|Aa<|Bg I<|Av<|Ae I<|BF (fst:=[]) (cap:=[]) (vs:=[vI 7]) .plain (bd 48) func48 I I I I (e1 I) I fun X3 G4 j3=>Ac<|Ae I<|Ab (FV.neqN (i:=7) (j:=0) I I)<|Aa<|Bg I<|Av<|Ae I<|Ab (AP (vs:=[vI 7]) (u:=.agg #[vI 7]) (e1 I) (fun p=>by kernel_rfl))<|Ab (BO I I)<|RG.panic .plain I<|AE j3 func48<|AE g3 func37 ?_
 cases h
 exact AE hp0 func55 ⟨v0.ag,I⟩
 refine RG.fg 0 I<|AH (AN I ((v0.memA .hd) 0 _ I))<|RG.fg 1 I<|AH (AN I ((v0.memA .hd) 1 _ I))<|AH (FV.eql (i:=j0) (j:=g0) I I)<|By I I<|BF (fst:=[]) (cap:=[]) (vs:=[.bool (decide (j0 = g0)),vI 7]) .plain (bd 37) func37 I I I I (e2 I I) I fun Y3 Q2 k3=>Ac<|Ae I<|Aa<|Be I h (fun H1 h=>?_) (fun H1 h=>?_)
 refine Av<|Ae I<|BF (fst:=[]) (cap:=[]) (vs:=[vI 7]) .plain (bd 48) func48 I I I I (e1 I) I fun Z3 H4 q3=>Ac<|Ae I<|Ab (FV.neqN (i:=7) (j:=0) I I)<|Aa<|Bg I<|Av<|Ae I<|Ab (AP (vs:=[vI 7]) (u:=.agg #[vI 7]) (e1 I) (fun p=>by kernel_rfl))<|Ab (BO I I)<|RG.panic .plain I<|AE q3 func48<|AE k3 func37 ?_
 cases h
 exact AE hp0 func55 ⟨v0.ag,I⟩
 refine Az<|MX.fin I<|Au (u:=.tuple #[]) Q2 func37 I .nil I<|Aa<|Ac<|Ag I<|Aa<|Aj<|Ac<|Ae I<|Ab (Bk (xs:=A0) underlying95 I (Ap I0 (Tt H0 G0)))<|Ae I<|Aa<|AF ?_
 have x1:=v0.nilRow 46 (Rep.size Ta)
 refine tn h fun K4 d3 E0=>MX.lf (α:=Nat × (La Ta) × Vc × (La Vc)) (fun ⟨s0,x0,z0,y0⟩=>[(4,vP C0),(6,vP D0),(9,z0),(47,j1),(48,vn A0.length),(49,vn s0)]) (fun ⟨s0,x0,z0,y0⟩=>[rr w 46 Ta z0 x0.length y0,.cells D0 [vI j0,vI g0] 98,.cells C0 ae 46]) (fun ⟨s0,x0,z0,y0⟩ D1=>Cells D1 (bl [rr w 46 Ta z0 x0.length y0,.cells D0 [vI j0,vI g0] 98,.cells C0 ae 46] ++ L) y0 x0) (fun ⟨s0,x0,z0,y0⟩=>(s0,x0)) (0,([]:La Ta),vN,[]) d3 x1 (AJ (cs:=[]) (xs:=([]:La Ta)) x1 L (AR _ _)) ?_
 rintro K3 ⟨s0,x0,z0,y0⟩ D1 M1 k0 z1 R0 h
 unfold bG_l1 at h
 try dsimp only at h
 refine Ac<|Ab (BD (i:=s0) (j:=A0.length) I I)<|Aa<|Aj<|Be I h (fun I1 h=>?_) (fun I1 h=>?_)
 refine Az<|Aj<|AF<|Ac<|bk h fun B0 C3 h=>?_
 obtain ⟨I3,U3,V2,Y2,b4,t3,b3⟩:=Bw (Ap I0 (Tt H0 (Tt G0 (Tt (St.nilRowT v0 46 (Rep.size Ta)) z1)))) C3
 obtain rfl:=fT t3
 refine Ab (BE 2 s0 I V2 I I Y2)<|Ab (AC I b3)<|RG.nl [vI 0,vI 0] k0 fun g5 P3 W1 A2=>AW [vI B0.fJ,vI B0.fall] W1 .hd (ai I) fun j5 d0 B2=>Aa<|du 23 fun b0 c0=>Rv 0 b0 I c0 (fun _=>Ak I)<|Rv 1 b0 I c0 (fun _=>AS 0 I)<|Rx 2 33488928 b0 I c0 (AN I ((d0.memA .hd) 0 _ I))<|Rv 3 b0 I c0 (fun _=>AS 0 I)<|Rx 4 33488928 b0 I c0 (AN I ((d0.memA .t2) 0 _ I))<|xk h (fun d4 V0 h=>?_) (fun k1 V0 h=>?_)
 refine Rv 6 b0 I c0 (fun _=>AS 1 I)<|Rx 7 33489920 b0 I c0 (AN I ((d0.memA .hd) 1 _ I))<|Rv 8 b0 I c0 (fun _=>AS 0 I)<|Rx 9 33489920 b0 I c0 (AN I ((d0.memA .hd) 0 _ I))<|bk h fun M4 x3 h=>Rv 10 b0 I c0 (fun _=>FV.subc (i:=B0.fall) (j:=B0.fJ) I I x3)<|Rv 11 b0 I c0 (fun _=>AS 1 I)<|Rx 12 33521664 b0 I c0 (AN I ((d0.memA .t2) 1 _ I))<|Rv 13 b0 I c0 (fun _=>AS 0 I)<|Rx 14 33521664 b0 I c0 (AN I ((d0.memA .t2) 0 _ I))<|bk h fun P4 y3 h=>Rv 15 b0 I c0 (fun _=>FV.subc (i:=g0) (j:=j0) I I y3) ?_
 have h:=ar h E0
 refine AT (i:=5) (rk b0) (BC (fst:=[]) (cap:=[]) I .plain (bd 29) I (e2 I I) (fun p q=>ah_c n (d0.hL0 hL q)  V0) (fun k5 G2=>?_))
 obtain ⟨Y1,x4⟩:=d0.agr G2
 cases h
 exact AE hp0 func55 ⟨Y1.ag,I⟩
 refine BQ 5 63 33488896 (.agg ((aa k1)).toArray) b0 I c0 (bd 29) I (e2 I I) (fun p q=>AZ (ah_c n (d0.hL0 hL q)  V0)) I<|Rv 6 b0 I c0 (fun _=>AS 1 I)<|Rx 7 33489920 b0 I c0 (AN I ((d0.memA .hd) 1 _ I))<|Rv 8 b0 I c0 (fun _=>AS 0 I)<|Rx 9 33489920 b0 I c0 (AN I ((d0.memA .hd) 0 _ I))<|bk h fun Q4 z3 h=>Rv 10 b0 I c0 (fun _=>FV.subc (i:=B0.fall) (j:=B0.fJ) I I z3)<|Rv 11 b0 I c0 (fun _=>AS 1 I)<|Rx 12 33521664 b0 I c0 (AN I ((d0.memA .t2) 1 _ I))<|Rv 13 b0 I c0 (fun _=>AS 0 I)<|Rx 14 33521664 b0 I c0 (AN I ((d0.memA .t2) 0 _ I))<|bk h fun R4 A3 h=>Rv 15 b0 I c0 (fun _=>FV.subc (i:=g0) (j:=j0) I I A3)<|xk h (fun g4 W0 h=>?_) (fun q1 W0 h=>?_)
 have h:=ar h E0
 refine AT (i:=16) (rk b0) (BC (fst:=[]) (cap:=[]) I .plain (bd 29) I (e2 I I) (fun p q=>ah_c n (d0.hL0 hL q)  W0) (fun p5 H2=>?_))
 obtain ⟨Z1,y4⟩:=d0.agr H2
 cases h
 exact AE hp0 func55 ⟨Z1.ag,I⟩
 refine BQ 16 131071 33423360 (.agg ((aa q1)).toArray) b0 I c0 (bd 29) I (e2 I I) (fun p q=>AZ (ah_c n (d0.hL0 hL q)  W0)) I<|xk h (fun j4 X0 h=>?_) (fun E1 X0 h=>?_)
 have h:=ar h E0
 refine AT (i:=17) (rk b0) (BC (fst:=[]) (cap:=[]) I .plain (bd 27) I (e2 I I) (fun p q=>bt_c n (d0.hL0 hL q) k1 q1 X0) (fun q5 I2=>?_))
 obtain ⟨b2,z4⟩:=d0.agr I2
 cases h
 exact AE hp0 func55 ⟨b2.ag,I⟩
 refine BQ 17 262143 33292288 (.agg ((aa E1)).toArray) b0 I c0 (bd 27) I (e2 I I) (fun p q=>AZ (bt_c n (d0.hL0 hL q) k1 q1 X0)) I<|bk h fun K0 E3 h=>BQ 18 524287 33030144 (.tuple #[.agg ((aa K0.1)).toArray,vI K0.2]) b0 I c0 (bd 57) I (e1 I) (fun p q=>dM_c n (d0.hL0 hL q) E1 E3) I<|Rv 19 b0 I c0 (fun _=>Ai I I)<|Rv 20 b0 I c0 (fun _=>Ai I I)<|xk h (fun k4 Y0 h=>?_) (fun t0 Y0 h=>?_)
 have h:=ar h E0
 refine AT (i:=21) (rk b0) (BC (fst:=[]) (cap:=[]) I .plain (bd 56) I (e2 I I) (fun p q=>al_c n (d0.hL0 hL q) K0.1 Y0) (fun s5 J2=>?_))
 obtain ⟨c2,A4⟩:=d0.agr J2
 cases h
 exact AE hp0 func55 ⟨c2.ag,I⟩
 refine BQ 21 4194303 29360128 (.agg ((aa t0)).toArray) b0 I c0 (bd 56) I (e2 I I) (fun p q=>AZ (al_c n (d0.hL0 hL q) K0.1 Y0)) I<|Ca 22 8388607 b0 I .plain I (AU (α:=Ta) (xs:=([t0]:La Ta)) (vs:=[.agg ((aa t0)).toArray]) (ds' :=(aa t0)) I d0 eQ I (e1 I) (by kernel_rfl) I) fun t5 Q3 Q0 C2=>bk h fun G3 D3 h=>?_
 have C1:=Tt A2 (Tt B2 C2)
 refine AT (i:=23) (rk b0) (BW (m' :=16777215) (sk b0) I I .plain I (BB (α:=Ta) (ys:=([t0]:La Ta)) D3 Q0 (fun _ _=>.t2) eQ I I (AG R0 C1) (Src.row (α:=Ta) Q0 .hd (AJ (cs:=(aa t0)) (xs:=(([t0]:La Ta):La Ta)) Q0 L (AB (cs:=(aa t0)) (ds:=[]) (bD t0.fN t0.fD) (AR _ _))))) (fun F3 u5 ⟨J1,g2,D2,R2⟩=>?_))
 refine Rv 24 b0 I c0 (fun _=>Bn I)<|AO (dk b0)<|AI<|Av<|Ab (Bu (i:=s0) (j:=1) I I (by omega))<|Ae I<|Aa ?_
 obtain ⟨j2,A1⟩:=Am g2 .d2
 exact M1 (s0 + 1,G3,F3,J1) j2 (Tt z1 (Tt C1 (Tt D2 A1))) (AG R2 A1) h
 refine Bj I ?_
 have h:=aI h E0
 try dsimp only at h
 refine Ac<|Ae I<|xk h (fun p4 Z0 h=>?_) (fun s1 Z0 h=>?_)
 refine BL (fst:=[]) (cap:=[]) .plain (bd 58) I (e1 I) (fun p q=>cW_c n (k0.hL0 hL q) (Ar (St.lend (α:=Ta) (L:=L) k0 .hd R0 hL) q) Z0) fun v5 K2=>?_
 obtain ⟨k2,B4⟩:=k0.agr K2
 cases h
 exact AE hp0 func55 ⟨k2.ag,I⟩
 refine Bm (.agg ((aa s1)).toArray) (bd 58) I (e1 I) (fun p q=>AZ (cW_c n (k0.hL0 hL q) (Ar (St.lend (α:=Ta) (L:=L) k0 .hd R0 hL) q) Z0)) I<|xk h (fun q4 b1 h=>?_) (fun u1 b1 h=>?_)
 refine BL (fst:=[]) (cap:=[]) .plain (bd 29) I (e2 I I) (fun p q=>ah_c n (k0.hL0 hL q)  b1) fun x5 M2=>?_
 obtain ⟨q2,C4⟩:=k0.agr M2
 cases h
 exact AE hp0 func55 ⟨q2.ag,I⟩
 refine Bm (.agg ((aa u1)).toArray) (bd 29) I (e2 I I) (fun p q=>AZ (ah_c n (k0.hL0 hL q)  b1)) I<|xk h (fun s4 c1 h=>?_) (fun v1 c1 h=>?_)
 refine BL (fst:=[]) (cap:=[]) .plain (bd 26) I (e2 I I) (fun p q=>bp_c n (k0.hL0 hL q) s1 u1 c1) fun y5 P2=>?_
 obtain ⟨s2,D4⟩:=k0.agr P2
 cases h
 exact AE hp0 func55 ⟨s2.ag,I⟩
 refine Bm (.agg ((aa v1)).toArray) (bd 26) I (e2 I I) (fun p q=>AZ (bp_c n (k0.hL0 hL q) s1 u1 c1)) I<|AW (aa v1) k0 .t2 (ai I) fun z5 y1 E4=>Aa<|Ao I<|Au hb0 func55 I (.cons (.many (cs:=(aa v1)) I I (y1.memA .t2)) .nil) I ?_
 cases h
 exact ⟨y1.ag,fun p q=>aD I⟩
def dz_p (n:Nat) (a0:Te) (a1:La Int) (a2:Int) (a3:Int):Oa (Ta × Int):=
  (bG_p n a0 a1 a2 a3).bind fun c0=>exc c0 (fun d0=>some (d0,(0:Int))) (fun b0=>some ((⟨(0,0,0,0,0,0,0,0),(0,0,0,0,0,0,0,0)⟩:Ta),b0.fE))
theorem dz_c (n:Nat) {L w} (hL:hl L w) (a0:Te) {v0_3:Vc} (h0_3:Rep.R w L [v0_3] a0.fv) {a1:La Int} {v1_0:Vc} (h1_0:Rep.R w L [v1_0] a1) {a2:Int} {a3:Int}  {r:Ta × Int} (h:dz_p n a0 a1 a2 a3 = some r) :
 Cl 19 #[.agg #[vI a0.fl,vI a0.fj,vI a0.fm,v0_3],v1_0,vI a2,vI a3] w (aj w fun _ u=>u = .tuple #[.agg ((aa r.1)).toArray,vI r.2]):=by
 unfold dz_p at h
 refine AK func19 I I I fun _ cs0 hb0=>Ac<|RG.bx (AD w) I I fun X1 j0 E0 F1=>RG.bx E0 I (Rep.c1 (Bb h1_0 E0)) fun j2 p0 R0 H1=>RG.bx R0 I I fun k2 q0 U0 I1=>RG.bx U0 I I fun p2 s0 V0 J1=>RG.nl ae V0 fun w32 J0 W0 K1=>Ag I<|Aa<|Ac<|Ab (BX (vs:=[]) (us:=[vP j0,vP p0,vP q0,vP s0]) ak (e4 I I I I))<|BF (fst:=[]) (cap:=[]) (vs:=[.func (.func 55) #[] #[vP j0,vP p0,vP q0,vP s0]]) .plain (bd 35) func35 I I I I (e1 I) I fun z1 H0 W1=>Ac<|RG.nl ae W0 fun q2 t0 X0 M1=>RG.nl [vI 0] X0 fun s2 d0 b0 P1=>Aa<|Ac<|Ab (BX (vs:=[]) (us:=[vP t0,vP d0]) ak (e2 I I))<|RG.defer (fst:=[]) (cap:=[vP t0,vP d0]) (vs:=[]) I .plain I ak<|Aa<|Ac ?_
 refine Ae I<|xk h (fun v0 B0 h=>?_) (fun g0 B0 h=>?_)
 refine BL (fst:=[]) (cap:=[vP j0,vP p0,vP q0,vP s0]) .plain (bd 55) I ak (fun p q=>bG_c n (b0.hL0 hL q) a0 (b0.k0 h0_3 q) (ao q (b0.memA .t6)) (b0.k0 h1_0 q) (ao q (b0.memA .t5)) (ao q (b0.memA .t4)) (ao q (b0.memA .t3)) B0) fun u2 j1=>?_
 obtain ⟨Y0,Q1⟩:=b0.agr j1
 refine PN.callD (vs:=[]) (cap:=[vP t0,vP d0]) (bd 75) func75 I I I fun y1 k1 q1=>Ac<|RG.recover1 .plain k1 I<|Ag I<|Aa<|Ac<|Ae I<|Ab (FV.neqI underlying20 I I)<|Aa<|Bg I<|Ac<|Ae I<|Ab (FV.assertT I I)<|Ae I<|Ab (Ai I I)<|Ab (Ai I I)<|RG.nl [vI 0] Y0 fun v2 u1 Z0 R1=>AW [vI v0.fE] Z0 .hd (o1 I) fun x2 b1 U1=>Ag I<|Aa<|Aj<|Ac<|Ae I<|Ab (Bz I)<|Aa<|BP I<|Az<|Ac<|RG.nl ae b1 fun y2 v1 u0 V1=>Aa<|du 3 fun c0 C0=>Rx 0 24 c0 I C0 (AC I (u0.memA .hd))<|Rv 1 c0 I C0 (fun _=>AS 0 I)<|BH (α:=Unit) (fun ()=>[(1,vP d0),(19,vI v0.fE)]) (fun ()=>[.cells d0 [vI 0] 47,.cells t0 ae 46,.cells J0 ae 46,.cells s0 [vI a3] 3,.cells q0 [vI a2] 3,.cells p0 [v1_0] 54,.cells j0 [vI a0.fl,vI a0.fj,vI a0.fm,v0_3] 31]) u0 1 15 ?_ ?_
 rintro ⟨⟩ z2 K0 A1
 try dsimp only
 refine Bv 4 31 c0 I I .plain (Ax (news:=[vI v0.fE]) K0 .hd I I I I I I (o1 I)) fun Y1 y0 B1=>AO (dk c0)<|MX.fin I<|RT.leaveD1 q1 func75 I .nil<|Au (u:=.tuple #[.agg zM,vI v0.fE]) H0 func35 I (.cons (.many (cs:=ae) I I (y0.memA .t1)) (.cons (.one I I ((y0.memA .hd) 0 _ I)) .nil)) I<|Ab (Ai I I)<|Ab (Ai I I)<|AW ae y0 .t2 (ai I) fun Z1 F0 C1=>Ag I<|Aa<|Ao I<|Au hb0 func19 I (.cons (.many (cs:=ae) I I (F0.memA .t2)) (.cons (.tmp I) .nil)) I ?_
 cases h
 exact F0.gv
 intro D0
 refine AM [2,3] (rk c0) ⟨?_,?_,trivial⟩
 refine AV (m' :=7) (sk c0) I .plain I (AN I ((u0.memA .t1) 0 _ I))<|Bv 3 15 c0 I I .plain (Ax (news:=ae) u0 .t3 I I I I I I (ai I)) fun s1 x0 A0=>?_
 obtain ⟨M0,d1⟩:=Am x0 .d2
 exact D0 () M0 (Tt A0 d1)
 refine RO.now (m' :=11) (sk c0) I I .plain (Ax (news:=ae) u0 .t3 I I I I I I (ai I)) fun s1 x0 A0=>Rx 2 16 c0 I C0 (AN I ((x0.memA .t1) 0 _ I)) ?_
 obtain ⟨P0,g1⟩:=Am x0 .d2
 exact D0 () P0 (Tt A0 g1)
 refine RG.callq' (v:=.agg ((aa g0)).toArray) (fst:=[]) (cap:=[vP j0,vP p0,vP q0,vP s0]) .plain (bd 55) I ak (fun p q=>AZ (bG_c n (b0.hL0 hL q) a0 (b0.k0 h0_3 q) (ao q (b0.memA .t6)) (b0.k0 h1_0 q) (ao q (b0.memA .t5)) (ao q (b0.memA .t4)) (ao q (b0.memA .t3)) B0)) I<|AW (aa g0) b0 .t1 (ai I) fun b2 Q0 D1=>AW [vI 0] Q0 .hd (o1 I) fun c2 z0 E1=>Aa<|Ao I<|RT.callD (vs:=[]) (cap:=[vP t0,vP d0]) (bd 75) func75 I I I fun x1 I0 p1=>Ac<|RG.recover0 .plain I0 I<|Ag I<|Aa<|Ac<|Ae I<|Ab (FV.neqI0 underlying20 I I)<|Aa<|BP I<|Az<|MX.fin I<|RT.leaveD0 I0 p1 func75 I .nil<|Au (u:=.tuple #[.agg ((aa g0)).toArray,vI 0]) H0 func35 I (.cons (.many (cs:=(aa g0)) I I (z0.memA .t1)) (.cons (.one I I ((z0.memA .hd) 0 _ I)) .nil)) I<|Ab (Ai I I)<|Ab (Ai I I)<|AW (aa g0) z0 .t2 (ai I) fun g2 G0 G1=>Ag I<|Aa<|Ao I<|Au hb0 func19 I (.cons (.many (cs:=(aa g0)) I I (G0.memA .t2)) (.cons (.tmp I) .nil)) I ?_
 cases h
 exact G0.gv
def cJ_p (_n:Nat) (a0:Ta) (a1:Ta) (a2:Int) (a3:Ta) (a4:Ta):Oa Bool:=
  (if a0 = a3 then (if a1 = a4 then some (decide (a2 = 0)) else some false) else some false)
theorem cJ_c (n:Nat) {L w} (_hL:hl L w) (a0:Ta) (a1:Ta) {a2:Int} (a3:Ta) {p3:Nat} (m3:∀ j9 v9,((aa a3):La Vc)[j9]? = some v9 -> w.cell? ((⟨p3,0,none⟩:Addr).add j9) = some v9) (a4:Ta) {p4:Nat} (m4:∀ j9 v9,((aa a4):La Vc)[j9]? = some v9 -> w.cell? ((⟨p4,0,none⟩:Addr).add j9) = some v9)  {r:Bool} (h:cJ_p n a0 a1 a2 a3 a4 = some r) :
 Cl 59 #[.agg ((aa a0)).toArray,.agg ((aa a1)).toArray,vI a2,.pointer (some ⟨p3,0,none⟩),.pointer (some ⟨p4,0,none⟩)] w (aj w fun _ u=>u = .bool r):=by
 unfold cJ_p at h
 refine AK func59 I I I fun _ cs0 hb0=>Ac<|RG.bx (AD w) I I fun s0 j0 g0 p0=>RG.bx g0 I I fun t0 k0 b0 q0=>Ag I<|Aa<|Ac<|Ab (AC I (b0.memA .t1))<|Ab (AC I (fun j9 v9 h9=>b0.ag.cell0 (m3 j9 v9 h9)))<|Ab (FV.eqlV (v:=.agg ((aa a0)).toArray) (u:=.agg ((aa a3)).toArray) I I (bG a0 a3))<|Ae I<|BG (s:=12) I h (fun c0 h=>?_) (fun c0 h=>?_)
 refine AH (AC I (b0.memA .hd))<|AH (AC I (fun j9 v9 h9=>b0.ag.cell0 (m4 j9 v9 h9)))<|AH (FV.eqlV (v:=.agg ((aa a1)).toArray) (u:=.agg ((aa a4)).toArray) I I (bG a1 a4))<|Bq I I<|Ae I<|BG (s:=17) I h (fun d0 h=>?_) (fun d0 h=>?_)
 refine AH (Ak I)<|AH (FV.eql (i:=a2) (j:=0) I I)<|Bq I I<|Ag I<|Aa<|Ao I<|Bi hb0 func59 I I ?_
 cases h
 exact b0.gv
 refine Aw<|Aw<|By I I<|Ag I<|Aa<|Ao I<|Bi hb0 func59 I I ?_
 cases h
 exact b0.gv
 refine Aw<|Aw<|Aw<|By I I<|Ae I<|Aw<|Aw<|By I I<|Ag I<|Aa<|Ao I<|Bi hb0 func59 I I ?_
 cases h
 exact b0.gv
theorem dP_c (_n:Nat) {L w} (_hL:hl L w) (a0:Ta) (a1:Ta)  :
 Cl 20 #[.agg ((aa a0)).toArray,.agg ((aa a1)).toArray] w (aj w fun w' u=>∃ b0 c0:Nat,u = .func (.func 59) #[] #[vP b0,vP c0]/\St w w' [.cells b0 (aa a0) 46,.cells c0 (aa a1) 46]):=by
 refine AK func20 I I I fun _ cs0 hb0=>Ac<|RG.bx (AD w) I I fun t0 b0 j0 p0=>RG.bx j0 I I fun u0 c0 k0 q0=>Ag I<|Aa<|Ac<|Ab (BX (vs:=[]) (us:=[vP b0,vP c0]) ak (e2 I I))<|Ag I<|Aa<|Ao I<|Au (u:=.func (.func 59) #[] #[vP b0,vP c0]) hb0 func20 I (.cons (.tmp I) .nil) I ?_
 obtain ⟨g0,s0⟩:=Am k0 (.a1 .d0)
 exact ⟨g0.ag,fun p q=>⟨b0,c0,I,g0.agree q⟩⟩
theorem el54:ElT Tryz.prog 54 3 (Rep.size Int) 8 (vI 0) [vI 0]:=⟨underlying54,by kernel_rfl,rfl,rfl,rfl,rfl⟩
def cB_p (n:Nat):Oa Bool:=
  (cE_p n).bind fun y1=>(cQ_p n y1 ([(0:Int),(0:Int),(1:Int)]:La Int) (2:Int) (0:Int)).bind fun j0=>(ck_p n y1 (1:Int) (0:Int)).bind fun A0=>(cQ_p n (⟨(0:Int),(0:Int),(0:Int),([(⟨⟨#[97]⟩,(0:Int),([]:La Int),([]:La Int),([]:La Int),false⟩:Tb),(⟨⟨#[98]⟩,(0:Int),([]:La Int),([]:La Int),([]:La Int),false⟩:Tb)]:La Tb)⟩:Te) ([(0:Int),(1:Int)]:La Int) (2:Int) (0:Int)).bind fun B0=>(if j0.2 = 0 then (bb_p n (1:Int) (4:Int)).bind fun k0=>(bb_p n (1:Int) (10:Int)).bind fun p0=>(aQ_p n j0.1 ([k0,p0]:La Ta)).bind fun q0=>(if q0 = true then (bb_p n (1:Int) (5:Int)).bind fun s0=>(dl_p n y1 ([(0:Int),(0:Int),(1:Int)]:La Int) (2:Int) (0:Int) s0).bind fun c0=>(cF_p n c0.1 c0.2 ([(0:Int)]:La Int)).bind fun t0=>(if t0 = true then (dz_p n y1 ([(0:Int),(0:Int),(1:Int)]:La Int) (2:Int) (0:Int)).bind fun d0=>(cm_p n d0.1 d0.2 (20:Int) (77:Int)).bind fun u0=>(if u0 = true then (bb_p n (14:Int) (9:Int)).bind fun v0=>(bb_p n (-1:Int) (45:Int)).bind fun x0=>(ck_p n y1 (0:Int) (0:Int)).bind fun b0=>(cJ_p n b0.1 b0.2.1 b0.2.2 v0 x0).bind fun y0=>(if y0 = true then (cU_p n y1 (0:Int) (0:Int)).bind fun g0=>(cm_p n g0.1 g0.2 (49:Int) (51:Int)).bind fun z0=>(if z0 = true then (if A0.2.2 = 2 then some (decide (B0.2 = 2)) else some false) else some false) else some false) else some false) else some false) else some false) else some false)
theorem cB_c (n:Nat) {L w} (hL:hl L w)  {r:Bool} (h:cB_p n = some r) :
 Cl 4 #[] w (aj w fun _ u=>u = .bool r):=by
 unfold cB_p at h
 have hS0:=AD w
 refine AK func4 I I I fun _ cs0 hb0=>Ac<|Ag I<|Aa<|Ac<|bk h fun y1 hy1 h=>jE (bd 12) I ak (fun p q=>cA (b0:=w.heap.size) (cE_c n (hS0.hL hL q)  hy1) q (Nat.le_trans hS0.ag.size q.size)) I fun w2 vu3 hag4 ⟨v9,x2,hu6,s5,F2⟩=>?_
 subst hu6
 have hS7:=dc hS0 s5
 have hT8:=gM hS0 s5
 refine Ah .plain I (AU (α:=Int) (xs:=([(0:Int),(0:Int),(1:Int)]:La Int)) (vs:=[vI 0,vI 0,vI 1]) (ds' :=[vI 0,vI 0,vI 1]) I hS7 el54 I (e3 I I I) (by kernel_rfl) I) fun p4 d2 G1 B2=>RG.nl [vI 0,vI 0,vI 0,vN] G1 fun s4 G3 H1 Q1=>AW [vI y1.fl,vI y1.fj,vI y1.fm,v9] H1 .hd (o4 I I I (St.o1 (α:=Tb) H1 .t2)) fun u4 I0 R1=>Ag I<|Aa<|Ac<|Ab (AC I (I0.memA .hd))<|Ae I ?_
 have J0:=BI I0 .t2
 have u0:=BK (α:=Tb) (v:=v9) (xs:=y1.fv) J0 L (Bl (α:=Tb) I0 .t2 (AG (AJ (cs:=x2) (xs:=(y1.fv:La Tb)) hS7 L (cG F2)) (Tt B2 (Tt Q1 R1))) hL)
 have b1:=BI J0 .t1
 have p1:=BJ J0 .t1
 have C1:=BK (α:=Int) (v:=(vS d2 3)) (xs:=([(0:Int),(0:Int),(1:Int)]:La Int)) b1 L (Bl (α:=Int) J0 .t1 (AG (AJ (cs:=[vI 0,vI 0,vI 1]) (xs:=(([(0:Int),(0:Int),(1:Int)]:La Int):La Int)) G1 L (AB (cs:=[vI 0]) (ds:=[vI 0,vI 1]) I (AB (cs:=[vI 0]) (ds:=[vI 1]) I (AB (cs:=[vI 1]) (ds:=[]) I (AR _ _))))) (Tt Q1 (Tt R1 (BJ I0 .t2)))) hL)
 refine bk h fun D3 k3 h=>jE (bd 13) I (e4 I I I I) (fun p q=>cQ_c n (b1.hL hL q) y1 (Ar (Ap u0 p1) q) (Ar C1 q) k3) I fun v4 d4 D2 ⟨V3,hu_,H2⟩=>?_
 subst hu_
 obtain ⟨K0,q1⟩:=b1.agr D2
 refine Ae I<|Ab (Ai I I)<|Ab (Ai I I)<|Ag I<|Ag I<|Aa<|Ac<|Ab (AC I (K0.memA .hd))<|bk h fun x0 p3 h=>Bm (.tuple #[.agg ((aa x0.1)).toArray,.agg ((aa x0.2.1)).toArray,vI x0.2.2]) (bd 8) I (e3 I I I) (fun p q=>ck_c n (K0.hL0 hL q) y1 (K0.kd (Ap u0 (Tt p1 q1)) q) p3) I<|Ae I<|Ab (Ai I I)<|Ab (Ai I I)<|Ab (Ai I I)<|RG.nl ae K0 fun x4 H3 y2 s1=>RG.nl ae y2 fun y4 I3 z2 u1=>AW (aa x0.1) z2 .t1 (ai I) fun z4 A2 v1=>AW (aa x0.2.1) A2 .hd (ai I) fun A4 I1 x1=>Ag I<|Aa<|Ac<|Ab (AP (vs:=[.string ⟨#[97]⟩]) (u:=.agg #[.string ⟨#[97]⟩,vI 0,vN,vN,vN,.bool false]) (e1 I) (fun p=>by kernel_rfl))<|Ab (AP (vs:=[.string ⟨#[98]⟩]) (u:=.agg #[.string ⟨#[98]⟩,vI 0,vN,vN,vN,.bool false]) (e1 I) (fun p=>by kernel_rfl)) ?_
 have Q3:=Rep.nilAt (α:=Int) I1 L
 refine Ah .plain I (AU (α:=Tb) (xs:=([(⟨⟨#[97]⟩,(0:Int),([]:La Int),([]:La Int),([]:La Int),false⟩:Tb),(⟨⟨#[98]⟩,(0:Int),([]:La Int),([]:La Int),([]:La Int),false⟩:Tb)]:La Tb)) (vs:=[.agg #[.string ⟨#[97]⟩,vI 0,vN,vN,vN,.bool false],.agg #[.string ⟨#[98]⟩,vI 0,vN,vN,vN,.bool false]]) (ds' :=[.string ⟨#[97]⟩,vI 0,vN,vN,vN,.bool false,.string ⟨#[98]⟩,vI 0,vN,vN,vN,.bool false]) I I1 fS I (e2 I I) (by kernel_rfl) I) fun B4 Y0 c1 z1=>?_
 have v0:=Rep.nilAt (α:=Int) c1 L
 refine Ab (AP (vs:=[(vS Y0 2)]) (u:=.agg #[vI 0,vI 0,vI 0,(vS Y0 2)]) (e1 I) (fun p=>by kernel_rfl))<|Ah .plain I (AU (α:=Int) (xs:=([(0:Int),(1:Int)]:La Int)) (vs:=[vI 0,vI 1]) (ds' :=[vI 0,vI 1]) I c1 el54 I (e2 I I) (by kernel_rfl) I) fun C4 g2 M0 R0=>?_
 have P0:=BI M0 .t1
 have U0:=BJ M0 .t1
 have d1:=BI P0 .hd
 have V0:=BJ P0 .hd
 refine bk h fun E3 q3 h=>jE (bd 13) I (e4 I I I I) (fun p q=>cQ_c n (d1.hL hL q) (⟨(0:Int),(0:Int),(0:Int),([(⟨⟨#[97]⟩,(0:Int),([]:La Int),([]:La Int),([]:La Int),false⟩:Tb),(⟨⟨#[98]⟩,(0:Int),([]:La Int),([]:La Int),([]:La Int),false⟩:Tb)]:La Tb)⟩:Te) (Ar (Ap (BK (α:=Tb) (v:=(vS Y0 2)) (xs:=([(⟨⟨#[97]⟩,(0:Int),([]:La Int),([]:La Int),([]:La Int),false⟩:Tb),(⟨⟨#[98]⟩,(0:Int),([]:La Int),([]:La Int),([]:La Int),false⟩:Tb)]:La Tb)) P0 L (Bl (α:=Tb) M0 .t1 (AG (AJ (cs:=[.string ⟨#[97]⟩,vI 0,vN,vN,vN,.bool false,.string ⟨#[98]⟩,vI 0,vN,vN,vN,.bool false]) (xs:=(([(⟨⟨#[97]⟩,(0:Int),([]:La Int),([]:La Int),([]:La Int),false⟩:Tb),(⟨⟨#[98]⟩,(0:Int),([]:La Int),([]:La Int),([]:La Int),false⟩:Tb)]:La Tb):La Tb)) c1 L (AB (cs:=[.string ⟨#[97]⟩,vI 0,vN,vN,vN,.bool false]) (ds:=[.string ⟨#[98]⟩,vI 0,vN,vN,vN,.bool false]) (cb ⟨#[97]⟩ (0:Int) ([]:La Int) v0 ([]:La Int) v0 ([]:La Int) v0 false) (AB (cs:=[.string ⟨#[98]⟩,vI 0,vN,vN,vN,.bool false]) (ds:=[]) (cb ⟨#[98]⟩ (0:Int) ([]:La Int) v0 ([]:La Int) v0 ([]:La Int) v0 false) (AR _ _)))) R0) hL)) V0) q) (Ar (BK (α:=Int) (v:=(vS g2 2)) (xs:=([(0:Int),(1:Int)]:La Int)) d1 L (Bl (α:=Int) P0 .hd (AG (AJ (cs:=[vI 0,vI 1]) (xs:=(([(0:Int),(1:Int)]:La Int):La Int)) M0 L (AB (cs:=[vI 0]) (ds:=[vI 1]) I (AB (cs:=[vI 1]) (ds:=[]) I (AR _ _)))) U0) hL)) q) q3) I fun D4 g4 E2 ⟨W3,hu_,R3⟩=>?_
 subst hu_
 obtain ⟨Q0,A1⟩:=d1.agr E2
 refine Ae I<|Ab (Ai I I)<|Ab (Ai I I)<|Ag I<|Ag I<|Aa<|Aj<|du 57 fun c0 d0=>Rv 0 c0 I d0 (fun _=>Ak I)<|Rv 1 c0 I d0 (fun _=>FV.eql (i:=D3.2) (j:=0) I I)<|Rv 2 c0 I d0 (fun _=>Ak I)<|RD.ifd (s:=35) I h (fun j2 h=>?_) (fun j2 h=>?_)
 refine RD.vP 3 15 c0 I d0 (.yes I I) (fun _=>Ak I) I<|bk h fun q0 P2 h=>RD.callq (i:=4) (m' :=31) (W:=144115188075855840) (tk c0) I d0 (v:=.agg ((aa q0)).toArray) (fst:=[]) (cap:=[]) (.yes I I) (bd 15) I (e2 I I) (fun p q=>bb_c n (Q0.hL0 hL q)  P2) I<|bk h fun k0 Q2 h=>RD.callq (i:=5) (m' :=63) (W:=144115188075855808) (tk c0) I d0 (v:=.agg ((aa k0)).toArray) (fst:=[]) (cap:=[]) (.yes I I) (bd 15) I (e2 I I) (fun p q=>bb_c n (Q0.hL0 hL q)  Q2) I<|Ca 6 127 c0 I (.yes I I) I (AU (α:=Ta) (xs:=([q0,k0]:La Ta)) (vs:=[.agg ((aa q0)).toArray,.agg ((aa k0)).toArray]) (ds' :=(aa q0 ++ aa k0)) I Q0 eQ I (e2 I I) (by kernel_rfl) I) fun j4 F3 t0 g1=>bk h fun y3 R2 h=>RD.callq (i:=7) (m' :=255) (W:=144115188075855616) (tk c0) I d0 (v:=.bool y3) (fst:=[]) (cap:=[]) (.yes I I) (bd 14) I (e2 I I) (fun p q=>aQ_c n (t0.hL0 hL q) (t0.kd (Ap H2 (Tt s1 (Tt u1 (Tt v1 (Tt x1 (Tt z1 (Tt R0 (Tt U0 (Tt V0 (Tt A1 g1)))))))))) q) (Ar (St.lend (α:=Ta) (L:=L) t0 .hd (AJ (cs:=(aa q0 ++ aa k0)) (xs:=(([q0,k0]:La Ta):La Ta)) t0 L (AB (cs:=(aa q0)) (ds:=(aa k0)) (bD q0.fN q0.fD) (AB (cs:=(aa k0)) (ds:=[]) (bD k0.fN k0.fD) (AR _ _)))) hL) q) R2) I<|Rv 8 c0 I d0 (fun _=>BY I I)<|Rv 9 c0 I d0 (fun _=>Ak I)<|RD.ifb (s:=42) I h (fun k2 h=>?_) (fun k2 h=>?_)
 refine RD.val (i:=12) (m' :=5119) (W:=144115188075823104) (tk c0) I d0 (.yes I I) (AC I (t0.memA .t3)) I<|RD.vP 13 13311 c0 I d0 (.yes I I) (fun _=>Ak I) I<|Ca 10 14335 c0 I (.yes I I) I (jA ((0:Int)) (vI 0) t0 aA (e1 I)) fun s3 F1 G0 J1=>?_
 have H0:=BI G0 .hd
 have K1:=BJ G0 .hd
 have W1:=BK (α:=Int) (v:=(vS F1 1)) (xs:=([(0:Int)]:La Int)) H0 L (Bl (α:=Int) G0 .hd (jC ((0:Int)) (vI 0) G0 L I) hL)
 refine Bp 11 16383 c0 I (.yes I I) (bd 16) I (e1 I) (fun p q=>Calls.gives (dO_c n (H0.hL hL q) ([(0:Int)]:La Int) (Ar W1 q)) fun (w8:World) (u8:Vc) ⟨b0_,hu_,s_⟩=>(⟨b0_,hu_,s_.from q⟩:∃ z0:Nat,u8 = Value.func (.func 44) #[] #[vP z0]/\St s3 w8 [.cells z0 [(vS F1 1)] 34])) I fun k4 X3 J3 ⟨z0,I2,X1⟩=>?_
 subst I2
 have Z0:=ez H0 X1
 have j1:=iY H0 X1
 refine bk h fun c2 U2 h=>RD.callq (i:=14) (m' :=32767) (W:=144115188075823104) (tk c0) I d0 (v:=.agg ((aa c2)).toArray) (fst:=[]) (cap:=[]) (.yes I I) (bd 15) I (e2 I I) (fun p q=>bb_c n (Z0.hL0 hL q)  U2) I<|bk h fun E4 V2 h=>?_
 have U1:=Tt p1 (Tt q1 (Tt s1 (Tt u1 (Tt v1 (Tt x1 (Tt z1 (Tt R0 (Tt U0 (Tt V0 (Tt A1 (Tt g1 (Tt J1 (Tt K1 j1)))))))))))))
 have V1:=Tt q1 (Tt s1 (Tt u1 (Tt v1 (Tt x1 (Tt z1 (Tt R0 (Tt U0 (Tt V0 (Tt A1 (Tt g1 (Tt J1 (Tt K1 j1))))))))))))
 refine Bp 15 65535 c0 I (.yes I I) (bd 17) I (e5 I I I I I) (fun p q=>dl_c n (Z0.hL hL q) y1 (Ar (Ap u0 U1) q) (Ar (Ap C1 V1) q) c2 V2) I fun u3 Y3 C2 ⟨U3,hu_,G2⟩=>?_
 subst hu_
 obtain ⟨p0,k1⟩:=Z0.agr C2
 refine RD.vP 16 131071 c0 I d0 (.yes I I) (fun _=>Ai I I) I<|RD.vP 17 262143 c0 I d0 (.yes I I) (fun _=>Ai I I) I<|bk h fun z3 W2 h=>RD.callq (i:=18) (m' :=524287) (W:=144115188075331584) (tk c0) I d0 (v:=.bool z3) (fst:=[]) (cap:=[vP z0]) (.yes I I) (bd 44) I (e2 I I) (fun p q=>cF_c n (p0.hL0 hL q) (p0.kd G2 q) (p0.kd (Ap W1 (Tt j1 k1)) q) (ao q (p0.memA .hd)) W2) I<|Rv 19 c0 I d0 (fun _=>BY I I)<|Rv 20 c0 I d0 (fun _=>Ak I)<|RD.ifb (s:=53) I h (fun p2 h=>?_) (fun p2 h=>?_)
 refine RD.val (i:=22) (m' :=6291455) (W:=144115188059078656) (tk c0) I d0 (.yes I I) (AC I (p0.memA .t4)) I<|RD.vP 23 14680063 c0 I d0 (.yes I I) (fun _=>Ak I) I<|Bp 21 16777215 c0 I (.yes I I) (bd 18) I (e2 I I) (fun p q=>Calls.gives (dL_c n (p0.hL hL q) (20:Int) (77:Int)) fun (w8:World) (u8:Vc) ⟨b0_,b1_,hu_,s_⟩=>(⟨b0_,b1_,hu_,s_.from q⟩:∃ A0 B0:Nat,u8 = Value.func (.func 54) #[] #[vP A0,vP B0]/\St u3 w8 [.cells A0 [vI 20] 3,.cells B0 [vI 77] 3])) I fun v3 Z3 K3 ⟨A0,B0,J2,Y1⟩=>?_
 subst J2
 have g0:=gD p0 Y1
 have M1:=kE p0 Y1
 refine bk h fun D1 X2 h=>?_
 have B1:=Tt U1 (Tt k1 M1)
 refine RD.callq (i:=24) (m' :=33554431) (W:=144115188042301440) (tk c0) I d0 (v:=.tuple #[.agg ((aa D1.1)).toArray,vI D1.2]) (fst:=[]) (cap:=[]) (.yes I I) (bd 19) I (e4 I I I I) (fun p q=>dz_c n (g0.hL0 hL q) y1 (g0.kd (Ap u0 B1) q) (g0.kd (Ap C1 (Tt V1 (Tt k1 M1))) q) X2) I<|RD.vP 25 67108863 c0 I d0 (.yes I I) (fun _=>Ai I I) I<|RD.vP 26 134217727 c0 I d0 (.yes I I) (fun _=>Ai I I) I<|bk h fun A3 Y2 h=>RD.callq (i:=27) (m' :=268435455) (W:=144115187807420416) (tk c0) I d0 (v:=.bool A3) (fst:=[]) (cap:=[vP A0,vP B0]) (.yes I I) (bd 54) I (e2 I I) (fun p q=>cm_c n (g0.hL0 hL q) D1.1 (ao q (g0.memA .hd)) (ao q (g0.memA .t1)) Y2) I<|Rv 28 c0 I d0 (fun _=>BY I I)<|Rv 29 c0 I d0 (fun _=>Ak I)<|RD.ifb (s:=62) I h (fun q2 h=>?_) (fun q2 h=>?_)
 refine bk h fun W0 Z2 h=>RD.callq (i:=30) (m' :=2147483647) (W:=144115177338437632) (tk c0) I d0 (v:=.agg ((aa W0)).toArray) (fst:=[]) (cap:=[]) (.yes I I) (bd 15) I (e2 I I) (fun p q=>bb_c n (g0.hL0 hL q)  Z2) I<|bk h fun X0 b3 h=>RD.callq (i:=31) (m' :=4294967295) (W:=144115175190953984) (tk c0) I d0 (v:=.agg ((aa X0)).toArray) (fst:=[]) (cap:=[]) (.yes I I) (bd 15) I (e2 I I) (fun p q=>bb_c n (g0.hL0 hL q)  b3) I<|RD.val (i:=33) (m' :=12884901887) (W:=144115170895986688) (tk c0) I d0 (.yes I I) (AC I (g0.memA .t6)) I<|Bp 32 17179869183 c0 I (.yes I I) (bd 20) I (e2 I I) (fun p q=>Calls.gives (dP_c n (g0.hL hL q) W0 X0) fun (w8:World) (u8:Vc) ⟨b0_,b1_,hu_,s_⟩=>(⟨b0_,b1_,hu_,s_.from q⟩:∃ C0 D0:Nat,u8 = Value.func (.func 59) #[] #[vP C0,vP D0]/\St v3 w8 [.cells C0 (aa W0) 46,.cells D0 (aa X0) 46])) I fun x3 b4 M3 ⟨C0,D0,K2,Z1⟩=>?_
 subst K2
 have j0:=gD g0 Z1
 have P1:=kE g0 Z1
 refine bk h fun y0 c3 h=>RD.callq (i:=34) (m' :=34359738367) (W:=144115153716117504) (tk c0) I d0 (v:=.tuple #[.agg ((aa y0.1)).toArray,.agg ((aa y0.2.1)).toArray,vI y0.2.2]) (fst:=[]) (cap:=[]) (.yes I I) (bd 8) I (e3 I I I) (fun p q=>ck_c n (j0.hL0 hL q) y1 (j0.kd (Ap u0 (Tt B1 P1)) q) c3) I<|RD.vP 35 68719476735 c0 I d0 (.yes I I) (fun _=>Ai I I) I<|RD.vP 36 137438953471 c0 I d0 (.yes I I) (fun _=>Ai I I) I<|RD.vP 37 274877906943 c0 I d0 (.yes I I) (fun _=>Ai I I) I<|bk h fun B3 d3 h=>RD.callq (i:=38) (m' :=549755813887) (W:=144114638320041984) (tk c0) I d0 (v:=.bool B3) (fst:=[]) (cap:=[vP C0,vP D0]) (.yes I I) (bd 59) I (e3 I I I) (fun p q=>cJ_c n (j0.hL0 hL q) y0.1 y0.2.1 W0 (ao q (j0.memA .hd)) X0 (ao q (j0.memA .t1)) d3) I<|Rv 39 c0 I d0 (fun _=>BY I I)<|Rv 40 c0 I d0 (fun _=>Ak I)<|RD.ifb (s:=73) I h (fun s2 h=>?_) (fun s2 h=>?_)
 refine RD.val (i:=42) (m' :=6597069766655) (W:=144106391982833664) (tk c0) I d0 (.yes I I) (AC I (j0.memA .t8)) I<|Bp 41 8796093022207 c0 I (.yes I I) (bd 18) I (e2 I I) (fun p q=>Calls.gives (dL_c n (j0.hL hL q) (49:Int) (51:Int)) fun (w8:World) (u8:Vc) ⟨b0_,b1_,hu_,s_⟩=>(⟨b0_,b1_,hu_,s_.from q⟩:∃ E0 F0:Nat,u8 = Value.func (.func 54) #[] #[vP E0,vP F0]/\St x3 w8 [.cells E0 [vI 49] 3,.cells F0 [vI 51] 3])) I fun q4 c4 P3 ⟨E0,F0,M2,b2⟩=>?_
 subst M2
 have s0:=gD j0 b2
 refine bk h fun E1 g3 h=>RD.callq (i:=43) (m' :=17592186044415) (W:=144097595889811456) (tk c0) I d0 (v:=.tuple #[.agg ((aa E1.1)).toArray,vI E1.2]) (fst:=[]) (cap:=[]) (.yes I I) (bd 10) I (e3 I I I) (fun p q=>cU_c n (s0.hL0 hL q) y1 (s0.kd (Ap u0 (Tt B1 (Tt P1 (kE j0 b2)))) q) g3) I<|RD.vP 44 35184372088831 c0 I d0 (.yes I I) (fun _=>Ai I I) I<|RD.vP 45 70368744177663 c0 I d0 (.yes I I) (fun _=>Ai I I) I<|bk h fun C3 j3 h=>RD.callq (i:=46) (m' :=140737488355327) (W:=143974450587500544) (tk c0) I d0 (v:=.bool C3) (fst:=[]) (cap:=[vP E0,vP F0]) (.yes I I) (bd 54) I (e2 I I) (fun p q=>cm_c n (s0.hL0 hL q) E1.1 (ao q (s0.memA .hd)) (ao q (s0.memA .t1)) j3) I<|Rv 47 c0 I d0 (fun _=>BY I I)<|Rv 48 c0 I d0 (fun _=>Ak I)<|RD.ifb (s:=81) I h (fun u2 h=>?_) (fun u2 h=>?_)
 refine RD.vP 49 1125899906842623 c0 I d0 (.yes I I) (fun _=>Ak I) I<|RD.vP 50 2251799813685247 c0 I d0 (.yes I I) (fun _=>FV.eql (i:=x0.2.2) (j:=2) I I) I<|Rv 51 c0 I d0 (fun _=>BY I I)<|Rv 52 c0 I d0 (fun _=>Ak I)<|RD.ifd (s:=85) I h (fun v2 h=>?_) (fun v2 h=>?_)
 refine RD.vP 53 18014398509481983 c0 I d0 (.yes I I) (fun _=>Ak I) I<|RD.vP 54 36028797018963967 c0 I d0 (.yes I I) (fun _=>FV.eql (i:=E3.2) (j:=2) I I) I<|Rv 55 c0 I d0 (fun _=>BY I I)<|Rv 56 c0 I d0 (fun _=>Bn I)<|AO (dk c0)<|Ao I<|Bi hb0 func4 I I ?_
 cases h
 exact s0.gv
 refine BS 36028797018963967 2 [(53,86),(54,87)] (F:=[(85,false)]) (U:=[]) c0 d0 (.cons I .nil) .nil ?_
 dsimp only [bg,List.map]
 refine Rv 55 c0 I d0 (fun _=>BA I I)<|Rv 56 c0 I d0 (fun _=>Bn I)<|AO (dk c0)<|Ao I<|Bi hb0 func4 I I ?_
 cases h
 exact s0.gv
 refine BS 2251799813685247 6 [(49,82),(50,83)] (F:=[(81,false)]) (U:=[]) c0 d0 (.cons I .nil) .nil ?_
 dsimp only [bg,List.map]
 refine Rv 51 c0 I d0 (fun _=>BA I I)<|Rv 52 c0 I d0 (fun _=>Ak I)<|BS 36028797018963967 2 [(53,86),(54,87)] (F:=[(85,false)]) (U:=[]) c0 d0 (.cons I .nil) .nil ?_
 dsimp only [bg,List.map]
 refine Rv 55 c0 I d0 (fun _=>BA I I)<|Rv 56 c0 I d0 (fun _=>Bn I)<|AO (dk c0)<|Ao I<|Bi hb0 func4 I I ?_
 cases h
 exact s0.gv
 refine BS 140737488355327 10 [(41,74),(42,75),(43,76),(44,77),(45,78),(46,79)] (F:=[(73,false)]) (U:=[]) c0 d0 (.cons I .nil) .nil ?_
 dsimp only [bg,List.map]
 refine Rv 47 c0 I d0 (fun _=>BA I I)<|Rv 48 c0 I d0 (fun _=>Ak I)<|BS 2251799813685247 6 [(49,82),(50,83)] (F:=[(81,false)]) (U:=[]) c0 d0 (.cons I .nil) .nil ?_
 dsimp only [bg,List.map]
 refine Rv 51 c0 I d0 (fun _=>BA I I)<|Rv 52 c0 I d0 (fun _=>Ak I)<|BS 36028797018963967 2 [(53,86),(54,87)] (F:=[(85,false)]) (U:=[]) c0 d0 (.cons I .nil) .nil ?_
 dsimp only [bg,List.map]
 refine Rv 55 c0 I d0 (fun _=>BA I I)<|Rv 56 c0 I d0 (fun _=>Bn I)<|AO (dk c0)<|Ao I<|Bi hb0 func4 I I ?_
 cases h
 exact j0.gv
 refine BS 549755813887 18 [(30,63),(31,64),(32,65),(33,66),(34,67),(35,68),(36,69),(37,70),(38,71)] (F:=[(62,false)]) (U:=[]) c0 d0 (.cons I .nil) .nil ?_
 dsimp only [bg,List.map]
 refine Rv 39 c0 I d0 (fun _=>BA I I)<|Rv 40 c0 I d0 (fun _=>Ak I)<|BS 140737488355327 10 [(41,74),(42,75),(43,76),(44,77),(45,78),(46,79)] (F:=[(73,false)]) (U:=[]) c0 d0 (.cons I .nil) .nil ?_
 dsimp only [bg,List.map]
 refine Rv 47 c0 I d0 (fun _=>BA I I)<|Rv 48 c0 I d0 (fun _=>Ak I)<|BS 2251799813685247 6 [(49,82),(50,83)] (F:=[(81,false)]) (U:=[]) c0 d0 (.cons I .nil) .nil ?_
 dsimp only [bg,List.map]
 refine Rv 51 c0 I d0 (fun _=>BA I I)<|Rv 52 c0 I d0 (fun _=>Ak I)<|BS 36028797018963967 2 [(53,86),(54,87)] (F:=[(85,false)]) (U:=[]) c0 d0 (.cons I .nil) .nil ?_
 dsimp only [bg,List.map]
 refine Rv 55 c0 I d0 (fun _=>BA I I)<|Rv 56 c0 I d0 (fun _=>Bn I)<|AO (dk c0)<|Ao I<|Bi hb0 func4 I I ?_
 cases h
 exact g0.gv
 refine BS 268435455 29 [(21,54),(22,55),(23,56),(24,57),(25,58),(26,59),(27,60)] (F:=[(53,false)]) (U:=[]) c0 d0 (.cons I .nil) .nil ?_
 dsimp only [bg,List.map]
 refine Rv 28 c0 I d0 (fun _=>BA I I)<|Rv 29 c0 I d0 (fun _=>Ak I)<|BS 549755813887 18 [(30,63),(31,64),(32,65),(33,66),(34,67),(35,68),(36,69),(37,70),(38,71)] (F:=[(62,false)]) (U:=[]) c0 d0 (.cons I .nil) .nil ?_
 dsimp only [bg,List.map]
 refine Rv 39 c0 I d0 (fun _=>BA I I)<|Rv 40 c0 I d0 (fun _=>Ak I)<|BS 140737488355327 10 [(41,74),(42,75),(43,76),(44,77),(45,78),(46,79)] (F:=[(73,false)]) (U:=[]) c0 d0 (.cons I .nil) .nil ?_
 dsimp only [bg,List.map]
 refine Rv 47 c0 I d0 (fun _=>BA I I)<|Rv 48 c0 I d0 (fun _=>Ak I)<|BS 2251799813685247 6 [(49,82),(50,83)] (F:=[(81,false)]) (U:=[]) c0 d0 (.cons I .nil) .nil ?_
 dsimp only [bg,List.map]
 refine Rv 51 c0 I d0 (fun _=>BA I I)<|Rv 52 c0 I d0 (fun _=>Ak I)<|BS 36028797018963967 2 [(53,86),(54,87)] (F:=[(85,false)]) (U:=[]) c0 d0 (.cons I .nil) .nil ?_
 dsimp only [bg,List.map]
 refine Rv 55 c0 I d0 (fun _=>BA I I)<|Rv 56 c0 I d0 (fun _=>Bn I)<|AO (dk c0)<|Ao I<|Bi hb0 func4 I I ?_
 cases h
 exact p0.gv
 refine BS 524287 38 [(10,43),(11,44),(12,45),(13,46),(14,47),(15,48),(16,49),(17,50),(18,51)] (F:=[(42,false)]) (U:=[]) c0 d0 (.cons I .nil) .nil ?_
 dsimp only [bg,List.map]
 refine Rv 19 c0 I d0 (fun _=>BA I I)<|Rv 20 c0 I d0 (fun _=>Ak I)<|BS 268435455 29 [(21,54),(22,55),(23,56),(24,57),(25,58),(26,59),(27,60)] (F:=[(53,false)]) (U:=[]) c0 d0 (.cons I .nil) .nil ?_
 dsimp only [bg,List.map]
 refine Rv 28 c0 I d0 (fun _=>BA I I)<|Rv 29 c0 I d0 (fun _=>Ak I)<|BS 549755813887 18 [(30,63),(31,64),(32,65),(33,66),(34,67),(35,68),(36,69),(37,70),(38,71)] (F:=[(62,false)]) (U:=[]) c0 d0 (.cons I .nil) .nil ?_
 dsimp only [bg,List.map]
 refine Rv 39 c0 I d0 (fun _=>BA I I)<|Rv 40 c0 I d0 (fun _=>Ak I)<|BS 140737488355327 10 [(41,74),(42,75),(43,76),(44,77),(45,78),(46,79)] (F:=[(73,false)]) (U:=[]) c0 d0 (.cons I .nil) .nil ?_
 dsimp only [bg,List.map]
 refine Rv 47 c0 I d0 (fun _=>BA I I)<|Rv 48 c0 I d0 (fun _=>Ak I)<|BS 2251799813685247 6 [(49,82),(50,83)] (F:=[(81,false)]) (U:=[]) c0 d0 (.cons I .nil) .nil ?_
 dsimp only [bg,List.map]
 refine Rv 51 c0 I d0 (fun _=>BA I I)<|Rv 52 c0 I d0 (fun _=>Ak I)<|BS 36028797018963967 2 [(53,86),(54,87)] (F:=[(85,false)]) (U:=[]) c0 d0 (.cons I .nil) .nil ?_
 dsimp only [bg,List.map]
 refine Rv 55 c0 I d0 (fun _=>BA I I)<|Rv 56 c0 I d0 (fun _=>Bn I)<|AO (dk c0)<|Ao I<|Bi hb0 func4 I I ?_
 cases h
 exact t0.gv
 refine BS 255 49 [(3,36),(4,37),(5,38),(6,39),(7,40)] (F:=[(35,false)]) (U:=[]) c0 d0 (.cons I .nil) .nil ?_
 dsimp only [bg,List.map]
 refine Rv 8 c0 I d0 (fun _=>BA I I)<|Rv 9 c0 I d0 (fun _=>Ak I)<|BS 524287 38 [(10,43),(11,44),(12,45),(13,46),(14,47),(15,48),(16,49),(17,50),(18,51)] (F:=[(42,false)]) (U:=[]) c0 d0 (.cons I .nil) .nil ?_
 dsimp only [bg,List.map]
 refine Rv 19 c0 I d0 (fun _=>BA I I)<|Rv 20 c0 I d0 (fun _=>Ak I)<|BS 268435455 29 [(21,54),(22,55),(23,56),(24,57),(25,58),(26,59),(27,60)] (F:=[(53,false)]) (U:=[]) c0 d0 (.cons I .nil) .nil ?_
 dsimp only [bg,List.map]
 refine Rv 28 c0 I d0 (fun _=>BA I I)<|Rv 29 c0 I d0 (fun _=>Ak I)<|BS 549755813887 18 [(30,63),(31,64),(32,65),(33,66),(34,67),(35,68),(36,69),(37,70),(38,71)] (F:=[(62,false)]) (U:=[]) c0 d0 (.cons I .nil) .nil ?_
 dsimp only [bg,List.map]
 refine Rv 39 c0 I d0 (fun _=>BA I I)<|Rv 40 c0 I d0 (fun _=>Ak I)<|BS 140737488355327 10 [(41,74),(42,75),(43,76),(44,77),(45,78),(46,79)] (F:=[(73,false)]) (U:=[]) c0 d0 (.cons I .nil) .nil ?_
 dsimp only [bg,List.map]
 refine Rv 47 c0 I d0 (fun _=>BA I I)<|Rv 48 c0 I d0 (fun _=>Ak I)<|BS 2251799813685247 6 [(49,82),(50,83)] (F:=[(81,false)]) (U:=[]) c0 d0 (.cons I .nil) .nil ?_
 dsimp only [bg,List.map]
 refine Rv 51 c0 I d0 (fun _=>BA I I)<|Rv 52 c0 I d0 (fun _=>Ak I)<|BS 36028797018963967 2 [(53,86),(54,87)] (F:=[(85,false)]) (U:=[]) c0 d0 (.cons I .nil) .nil ?_
 dsimp only [bg,List.map]
 refine Rv 55 c0 I d0 (fun _=>BA I I)<|Rv 56 c0 I d0 (fun _=>Bn I)<|AO (dk c0)<|Ao I<|Bi hb0 func4 I I ?_
 cases h
 exact Q0.gv
structure Tk where
  fl:UInt8
  fj:UInt8
  fm:UInt8
  fp:UInt8
  fNums:La UInt8
  deriving DecidableEq
instance:Rep Tk:=Rep.via (β:=UInt8 × UInt8 × UInt8 × UInt8 × (List UInt8)) fun x=>(x.fl,x.fj,x.fm,x.fp,x.fNums)
def aW_p (_n:Nat) (a0:Tk) (a1:Int):Oa Int:=
  (if a0.fNums.length = 0 then some (1:Int) else (ci a1 ((a0.fNums.length:Nat):Int)).bind fun b0=>(idx a0.fNums b0).bind fun c0=>some ((c0.toNat:Nat):Int))
theorem aW_c (n:Nat) {L w} (_hL:hl L w) (a0:Tk) {v0_4:Vc} (h0_4:Rep.R w L [v0_4] a0.fNums) {a1:Int}  {r:Int} (h:aW_p n a0 a1 = some r) :
 Cl 21 #[.agg #[.int .u8 (a0.fl.toNat:Int),.int .u8 (a0.fj.toNat:Int),.int .u8 (a0.fm.toNat:Int),.int .u8 (a0.fp.toNat:Int),v0_4],vI a1] w (aj w fun _ u=>u = vI r):=by
 unfold aW_p at h
 refine AK func21 I I I fun _ cs0 hb0=>Ac<|RG.bx (AD w) I I fun I0 D0 d0 F0=>Ag I<|Aa<|Aj<|Ac<|Ba 4 I<|AY I ((d0.memA .hd) 4 _ I) ?_
 have g0:=Bb h0_4 d0
 have G0:=Bh g0
 refine Ab (Bk (xs:=a0.fNums) underlying22 I g0)<|Ab (BZ (i:=a0.fNums.length) (j:=0) I I)<|Aa<|Be I h (fun k0 h=>?_) (fun k0 h=>?_)
 refine Ac<|Ag I<|Aa<|Ao I<|Bi hb0 func21 I I ?_
 cases h
 exact d0.gv
 refine Az<|Aj<|du 11 fun b0 c0=>Rv 0 b0 I c0 (fun _=>AS 4 I)<|Rx 1 1920 b0 I c0 (AN I ((d0.memA .hd) 4 _ I))<|Rv 2 b0 I c0 (fun _=>Ak I)<|Rv 3 b0 I c0 (fun _=>AS 4 I)<|Rx 4 2016 b0 I c0 (AN I ((d0.memA .hd) 4 _ I))<|Rx 5 1984 b0 I c0 (Bk (xs:=a0.fNums) underlying22 I g0)<|bk h fun B0 y0 h=>Rv 6 b0 I c0 (fun _=>FV.remc (i:=a1) (j:=((a0.fNums.length:Nat):Int)) I I y0)<|bk h fun j0 z0 h=>?_
 obtain ⟨t0,A0⟩:=aL z0
 obtain ⟨C0,E0,q0,u0,p0,x0,v0⟩:=Bw g0 A0
 have s0:p0 = [.int .u8 (j0.toNat:Int)]:=x0; subst s0
 refine Rv 7 b0 I c0 (fun _=>BE 1 (B0.toNat) I q0 I t0 u0)<|Rx 8 1536 b0 I c0 (AN I (v0 0 _ I)) ?_
 have H0:=j0.toNat_lt
 refine Rv 9 b0 I c0 (fun _=>FV.convN (i:=j0.toNat) underlying5 underlying3 I (by omega))<|Rv 10 b0 I c0 (fun _=>Bn I)<|AO (dk b0)<|Ao I<|Bi hb0 func21 I I ?_
 cases h
 exact d0.gv
def aF_l1 (n:Nat) (a1:Int) (a2:Int) (a0:Tk) (a3:Int) (d0:Int × (La Int) -> Oa (La Int)):Int × (La Int) -> Oa (La Int)
  | (b0,c0)=>(if b0 < a1 then (chk (a2 + b0)).bind fun j0=>(aW_p n a0 j0).bind fun p0=>(app c0 ([min p0 a3]:La Int)).bind fun k0=>(chk (b0 + 1)).bind fun g0=>d0 (g0,k0) else some c0)
def aF_p (n:Nat) (a0:Tk) (a1:Int) (a2:Int) (a3:Int):Oa (La Int):=
  Option.bind (au (aF_l1 n a1 a2 a0 a3) n (0,([]:La Int))) (fun b0=>some b0)
theorem aF_c (n:Nat) {L w} (hL:hl L w) (a0:Tk) {v0_4:Vc} (h0_4:Rep.R w L [v0_4] a0.fNums) {a1:Int} {a2:Int} {a3:Int}  {r:La Int} (h:aF_p n a0 a1 a2 a3 = some r) :
 Cl 22 #[.agg #[.int .u8 (a0.fl.toNat:Int),.int .u8 (a0.fj.toNat:Int),.int .u8 (a0.fm.toNat:Int),.int .u8 (a0.fp.toNat:Int),v0_4],vI a1,vI a2,vI a3] w (aj w fun w' u=>∃ v0_0:Vc,u = v0_0/\Rep.R w' L [v0_0] r):=by
 unfold aF_p at h
 refine AK func22 I I I fun _ cs0 hb0=>Ac<|RG.bx (AD w) I I fun p1 q0 u0 c1=>Ag I<|Aa<|Ac<|Ag I<|Aa<|Aj<|Ac<|Ag I<|Aa<|AF ?_
 have v0:=u0.nilRow 3 (Rep.size Int)
 have g1:=St.nilRowT u0 3 (Rep.size Int)
 obtain ⟨j1,K0,J0⟩:=av h
 refine MX.lf (α:=Int × (La Int) × Vc × (La Vc)) (fun ⟨g0,c0,b0,j0⟩=>[(1,vI a1),(2,vI a2),(3,vI a3),(4,vP q0),(9,b0),(10,vI g0)]) (fun ⟨g0,c0,b0,j0⟩=>[rr w 3 Int b0 c0.length j0,.cells q0 [.int .u8 (a0.fl.toNat:Int),.int .u8 (a0.fj.toNat:Int),.int .u8 (a0.fm.toNat:Int),.int .u8 (a0.fp.toNat:Int),v0_4] 24]) (fun ⟨g0,c0,b0,j0⟩ A0=>Cells A0 (bl [rr w 3 Int b0 c0.length j0,.cells q0 [.int .u8 (a0.fl.toNat:Int),.int .u8 (a0.fj.toNat:Int),.int .u8 (a0.fm.toNat:Int),.int .u8 (a0.fp.toNat:Int),v0_4] 24] ++ L) j0 c0) (fun ⟨g0,c0,b0,j0⟩=>(g0,c0)) (0,([]:La Int),vN,[]) K0 v0 (AJ (cs:=[]) (xs:=([]:La Int)) v0 L (AR _ _)) ?_
 rintro Y0 ⟨g0,c0,b0,j0⟩ A0 D0 p0 G0 z0 h
 unfold aF_l1 at h
 try dsimp only at h
 refine Aj<|Ac<|Ae I<|Ae I<|Ab (FV.lss (i:=g0) (j:=a1) I I)<|Aa<|Be I h (fun B0 h=>?_) (fun B0 h=>?_)
 refine Az<|Aj<|AF<|Av<|Ae I<|Ab (AC I (p0.memA .t1))<|Ae I<|Ae I<|bk h fun k1 Q0 h=>Ab (BR (i:=a2) (j:=g0) I I Q0)<|bk h fun d0 U0 h=>Bm (vI d0) (bd 21) I (e2 I I) (fun p q=>aW_c n (p0.hL0 hL q) a0 (p0.k0 h0_4 q) U0) I<|Ae I<|Ab (FV.min2 (i:=d0) (j:=a3) I I)<|Ah .plain I (jA (min d0 a3) (vI (min d0 a3)) p0 aA (e1 I)) fun q1 Z0 t0 y0=>bk h fun X0 R0 h=>RG.doesL .plain I (BB (α:=Int) (ys:=([min d0 a3]:La Int)) R0 t0 (fun _ _=>.t1) aA I I (AG z0 y0) (Src.row (α:=Int) t0 .hd (jC (min d0 a3) (vI (min d0 a3)) t0 L I))) fun W0 s1 ⟨C0,F0,H0,I0⟩=>Ag I<|Aa<|AI<|Av<|Ae I<|bk h fun V0 P0 h=>Ab (BR (i:=g0) (j:=1) I I P0)<|Ag I<|Aa ?_
 obtain ⟨E0,x0⟩:=Am F0 .d1
 exact D0 (V0,X0,W0,C0) E0 (Tt G0 (Tt y0 (Tt H0 x0))) (AG I0 x0) h
 refine Bj I ?_
 have h:=J0 _ h
 try dsimp only at h
 refine Ac<|Ae I<|Ag I<|Aa<|Ao I ?_
 have s0:=BI p0 .hd
 have b1:=BJ p0 .hd
 have M0:=BK (α:=Int) (v:=b0) (xs:=c0) s0 L (Bl (α:=Int) p0 .hd z0 hL)
 refine Bi hb0 func22 I I ?_
 cases h
 exact ⟨s0.ag,fun p q=>⟨b0,I,s0.kd M0 q⟩⟩
end Go.Proofs.YtmhnkiifknjgaaaGreatDoor
