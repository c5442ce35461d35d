import Derived.Test.YtlleajifdbnbaaaGreatDoorProg
import Derived.Test.YtlleajifdbnbaaaGreatDoorQMr
namespace Go.Proofs.YtlleajifdbnbaaaGreatDoor
open Go Go.RowKit Tryz
set_option maxRecDepth 4000
set_option maxHeartbeats 4000000
abbrev Cl := Calls Tryz.prog
theorem bd (k:Nat) (h:br Tryz.prog k = true:=by kernel_rfl):br Tryz.prog k = true:=h

def tab0:List UInt8:=[0,1,56,2,57,49,28,3,61,58,42,50,38,29,17,4,62,47,59,36,45,43,51,22,53,39,33,30,24,18,12,5,63,55,48,27,60,41,37,16,46,35,44,21,52,32,23,11,54,26,40,15,34,20,31,10,25,14,19,9,13,8,7,6]
def aV_p (_n:Nat) (a0:Int):Option Bool:=
  some (!(decide (a0 = a0)))
theorem aV_c (n:Nat) {L w} (_hL:hl L w) {a0:Int}  {r:Bool} (h:aV_p n a0 = some r) :
 Cl 91 #[vI a0] w (ah w fun _ u=>u = .bool r):=by
 unfold aV_p at h
 have hS0:=AF w
 refine AG func91 rfl rfl rfl fun _ cs0 hb0=>Af<|Ae rfl<|Aa<|Af<|Ac rfl<|Ac rfl<|Ab (FV.neq (i:=a0) (j:=a0) rfl rfl)<|Ae rfl<|Aa<|Aq rfl<|AQ hb0 func91 rfl rfl ?_
 cases h
 exact hS0.gv
def bp_p (n:Nat) (a0:Int) (a1:Int):Option Int:=
  (aV_p n a0).bind fun y1=>(aV_p n a1).bind fun y2=>(if y1 = true then (if y2 = true then some (0:Int) else some (-1:Int)) else (if y2 = true then some (1:Int) else (if a0 < a1 then some (-1:Int) else (if a1 < a0 then some (1:Int) else some (0:Int)))))
theorem bp_c (n:Nat) {L w} (hL:hl L w) {a0:Int} {a1:Int}  {r:Int} (h:bp_p n a0 a1 = some r) :
 Cl 65 #[vI a0,vI a1] w (ah w fun _ u=>u = vI r):=by
 unfold bp_p at h
 have hS0:=AF w
 refine AG func65 rfl rfl rfl fun _ cs0 hb0=>Af<|Ae rfl<|Aa<|Af<|Ac rfl<|bk h fun y1 hy1 h=>BA (.bool y1) (bd 91) rfl (e1 rfl) (fun w9 hw9=>aV_c n (hS0.hL0 hL hw9)  hy1) rfl<|Ae rfl<|Aa<|Af<|Ac rfl<|bk h fun y2 hy2 h=>BA (.bool y2) (bd 91) rfl (e1 rfl) (fun w9 hw9=>aV_c n (hS0.hL0 hL hw9)  hy2) rfl<|Ae rfl<|Aa<|Aj<|Af<|Ac rfl<|Aa<|MX.ifb rfl h (fun c3 h=>?_) (fun c3 h=>?_)
 refine Aj<|Af<|Ac rfl<|Aa<|MX.ifb rfl h (fun c4 h=>?_) (fun c4 h=>?_)
 refine Af<|Ae rfl<|Aa<|Aq rfl<|AQ hb0 func65 rfl rfl ?_
 cases h
 exact hS0.gv
 refine Ao<|Af<|Ae rfl<|Aa<|Aq rfl<|AQ hb0 func65 rfl rfl ?_
 cases h
 exact hS0.gv
 refine Ao<|Aj<|Af<|Ac rfl<|Aa<|MX.ifb rfl h (fun c5 h=>?_) (fun c5 h=>?_)
 refine Af<|Ae rfl<|Aa<|Aq rfl<|AQ hb0 func65 rfl rfl ?_
 cases h
 exact hS0.gv
 refine Ao<|Aj<|Af<|Ac rfl<|Ac rfl<|Ab (FV.lss (i:=a0) (j:=a1) rfl rfl)<|Aa<|AN rfl h (fun c6 h=>?_) (fun c6 h=>?_)
 refine Af<|Ae rfl<|Aa<|Aq rfl<|AQ hb0 func65 rfl rfl ?_
 cases h
 exact hS0.gv
 refine Ao<|Aj<|Af<|Ac rfl<|Ac rfl<|Ab (FV.gtr (i:=a0) (j:=a1) rfl rfl)<|Aa<|AN rfl h (fun c7 h=>?_) (fun c7 h=>?_)
 refine Af<|Ae rfl<|Aa<|Aq rfl<|AQ hb0 func65 rfl rfl ?_
 cases h
 exact hS0.gv
 refine Ao<|Af<|Ae rfl<|Aa<|Aq rfl<|AQ hb0 func65 rfl rfl ?_
 cases h
 exact hS0.gv
def ay_l1 (n:Nat) (a0:List Int) (a1:List Int) (d0:Nat -> Option (Int ⊕ Unit)):Nat -> Option (Int ⊕ Unit)
  | b0=>(if b0 < a0.length then (a0[b0]?).bind fun g0=>(if a1.length <= b0 then some (.inl (1:Int)) else (a1[b0]?).bind fun j0=>(bp_p n g0 j0).bind fun c0=>(if c0 = 0 then d0 (b0 + 1) else some (.inl c0))) else some (.inr ()))
def ay_p (n:Nat) (a0:List Int) (a1:List Int):Option Int:=
  thn (ac (ay_l1 n a0 a1) n 0) (fun _=>(if a0.length < a1.length then some (-1:Int) else some (0:Int)))
theorem ay_c (n:Nat) {L w} (hL:hl L w) {a0:List Int} {v0_0:Value} (h0_0:Rep.R w L [v0_0] a0) {a1:List Int} {v1_0:Value} (h1_0:Rep.R w L [v1_0] a1)  {r:Int} (h:ay_p n a0 a1 = some r) :
 Cl 45 #[v0_0,v1_0] w (ah w fun _ u=>u = vI r):=by
 unfold ay_p at h
 refine AG func45 rfl rfl rfl fun _ cs0 hb0=>Af<|Ae rfl<|Aa<|Aj<|Af<|Ac rfl ?_
 have hl1:a0.length <= 281474976710656:=AY h0_0
 refine Ab (Bh (xs:=a0) underlying41 rfl h0_0)<|Ac rfl<|Aa<|Ar<|tn h fun c1 H0 d0=>MX.lo (α:=Nat) (fun b0=>[(0,v0_0),(1,v1_0),(9,v0_0),(10,vI ((a0.length:Nat):Int)),(11,vI ((b0:Nat):Int))]) (fun b0=>[]) (fun b0=>b0) 0 H0 (AF w) ?_
 rintro W0 b0 d1 x0 c0 y0 h
 unfold ay_l1 at h
 try dsimp only at h
 refine Af<|Ab (Bq (i:=b0) (j:=a0.length) rfl rfl)<|Aa<|Aj<|AN rfl h (fun p0 h=>?_) (fun p0 h=>?_)
 refine Ao<|Aj<|Ar<|Af<|Ac rfl<|bk h fun Q0 K0 h=>?_
 obtain ⟨U0,X0,z0,D0,u0,I0,F0⟩:=Bm (Be h0_0 c0) K0
 have A0:u0 = [vI Q0]:=I0; subst A0
 refine Ab (Bk 1 b0 rfl z0 rfl rfl D0)<|AA rfl (F0 0 _ rfl)<|Ae rfl<|Ae rfl<|Aa<|Aj<|Af<|Ac rfl<|Ac rfl ?_
 have g0:=Be h1_0 c0
 have Z0:a1.length <= 281474976710656:=AY g0
 refine Ab (Bh (xs:=a1) underlying41 rfl g0)<|Ab (FV.geqN (i:=b0) (j:=a1.length) rfl rfl)<|Aa<|AN rfl h (fun q0 h=>?_) (fun q0 h=>?_)
 refine Af<|Ae rfl<|Aa ?_
 have h:=ao h d0
 refine Aq rfl<|AQ hb0 func45 rfl rfl ?_
 cases h
 exact c0.gv
 refine Ao<|Af<|Ac rfl<|Ac rfl<|bk h fun R0 M0 h=>?_
 obtain ⟨V0,Y0,B0,E0,v0,J0,G0⟩:=Bm g0 M0
 have C0:v0 = [vI R0]:=J0; subst C0
 refine Ab (Bk 1 b0 rfl B0 rfl rfl E0)<|AA rfl (G0 0 _ rfl)<|Ae rfl<|Aa<|Af<|Ac rfl<|Ac rfl<|bk h fun k0 P0 h=>BA (vI k0) (bd 65) rfl (e2 rfl rfl) (fun w9 hw9=>bp_c n (c0.hL0 hL hw9)  P0) rfl<|Ae rfl<|Aa<|Af<|Ac rfl<|Ab (FV.neq (i:=k0) (j:=0) rfl rfl)<|Aa<|MX.ifn rfl h (fun s0 h=>?_) (fun s0 h=>?_)
 refine Ao<|Ap<|Ak<|Ab (AW (i:=b0) (j:=1) rfl rfl (by omega))<|Ac rfl<|Aa<|x0 (b0 + 1) c0 y0 h
 refine Af<|Ac rfl<|Ae rfl<|Aa ?_
 have h:=ao h d0
 refine Aq rfl<|AQ hb0 func45 rfl rfl ?_
 cases h
 exact c0.gv
 refine AV rfl ?_
 have h:=aI h d0
 try dsimp only at h
 refine Aj<|Af<|Ac rfl<|Ab (Bh (xs:=a0) underlying41 rfl (Be h0_0 c0))<|Ac rfl ?_
 have j0:=Be h1_0 c0
 have b1:a1.length <= 281474976710656:=AY j0
 refine Ab (Bh (xs:=a1) underlying41 rfl j0)<|Ab (Bq (i:=a0.length) (j:=a1.length) rfl rfl)<|Aa<|AN rfl h (fun t0 h=>?_) (fun t0 h=>?_)
 refine Af<|Ae rfl<|Aa<|Aq rfl<|AQ hb0 func45 rfl rfl ?_
 cases h
 exact c0.gv
 refine Ao<|Af<|Ae rfl<|Aa<|Aq rfl<|AQ hb0 func45 rfl rfl ?_
 cases h
 exact c0.gv
structure Tb where
  fN:Int
  fh:List (Int × Int)
  deriving DecidableEq
instance:Rep Tb:=Rep.via (β:=Int × (List (Int × Int))) fun x=>(x.fN,x.fh)
theorem aU {w:World} {L:List Nat} {cs:List Value} {x:Int × Int} (h:Rep.R w L cs x):cs = [vI x.1,vI x.2]:=by
  obtain ⟨c0,r0,rfl,h0,h⟩:=h
  have e0:c0 = [vI x.1]:=h0; subst e0
  have e1:r0 = [vI x.2]:=h; subst e1
  rfl
theorem bn {w:World} {L:List Nat} (a0:Int) (a1:Int):Rep.R w L [vI a0,vI a1] ((a0,a1):Int × Int):=⟨[vI a0],[vI a1],rfl,rfl,rfl⟩
def aS_l1 (n:Nat) (a0:Tb) (d0:Nat × Int × Int -> Option (Int ⊕ Unit)):Nat × Int × Int -> Option (Int ⊕ Unit)
  | (c0,j0,k0)=>(if c0 < a0.fh.length then (a0.fh[c0]?).bind fun b0=>(if b0.1 < 0 then some (.inl (180:Int)) else (if b0.2 <= b0.1 then some (.inl (180:Int)) else (if a0.fN <= b0.2 then some (.inl (180:Int)) else (ay_p n ([j0,k0]:List Int) ([b0.1,b0.2]:List Int)).bind fun g0=>(if 0 <= g0 then some (.inl (180:Int)) else d0 (c0 + 1,b0.1,b0.2))))) else some (.inr ()))
def aS_p (n:Nat) (a0:Tb):Option Int:=
  (if a0.fN < 1 then some (180:Int) else (if 64 < a0.fN then some (180:Int) else (if 200 < a0.fh.length then some (180:Int) else thn (ac (aS_l1 n a0) n (0,(-1),(-1))) (fun _=>some (0:Int)))))
theorem aS_c (n:Nat) {L w} (hL:hl L w) (a0:Tb) {v0_1:Value} (h0_1:Rep.R w L [v0_1] a0.fh)  {r:Int} (h:aS_p n a0 = some r) :
 Cl 21 #[.agg #[vI a0.fN,v0_1]] w (ah w fun _ u=>u = vI r):=by
 unfold aS_p at h
 refine AG func21 rfl rfl rfl fun _ cs0 hb0=>Af<|RG.bx (AF w) rfl rfl fun B1 x0 p0 v1=>Ae rfl<|Aa<|Aj<|Af<|AT 0 rfl<|AA rfl ((p0.memA .hd) 0 _ rfl)<|Ab (FV.lss (i:=a0.fN) (j:=1) rfl rfl)<|Ac rfl<|Bn (s:=9) rfl h (fun G0 h=>?_) (fun G0 h=>?_)
 refine Ah<|Ah<|Ah<|Bd rfl rfl<|Ac rfl<|Ah<|Ah<|Ah<|Ah<|Bd rfl rfl<|Aa<|AS rfl<|Af<|Ae rfl<|Aa<|Aq rfl<|AQ hb0 func21 rfl rfl ?_
 cases h
 exact p0.gv
 refine RG.fg 0 rfl<|Al (AM rfl ((p0.memA .hd) 0 _ rfl))<|Al (FV.gtr (i:=a0.fN) (j:=64) rfl rfl)<|Bb rfl rfl<|Ac rfl<|Bn (s:=14) rfl h (fun H0 h=>?_) (fun H0 h=>?_)
 refine Ah<|Ah<|Ah<|Ah<|Bd rfl rfl<|Aa<|AS rfl<|Af<|Ae rfl<|Aa<|Aq rfl<|AQ hb0 func21 rfl rfl ?_
 cases h
 exact p0.gv
 refine RG.fg 1 rfl<|Al (AM rfl ((p0.memA .hd) 1 _ rfl)) ?_
 have y0:=Be h0_1 p0
 have z1:a0.fh.length <= 281474976710656:=AY y0
 refine Al (Bh (xs:=a0.fh) underlying32 rfl y0)<|Al (FV.gtrN (i:=a0.fh.length) (j:=200) rfl rfl)<|Bb rfl rfl<|Aa<|AN rfl h (fun I0 h=>?_) (fun I0 h=>?_)
 refine Af<|Ae rfl<|Aa<|Aq rfl<|AQ hb0 func21 rfl rfl ?_
 cases h
 exact p0.gv
 refine Ao<|Af<|Ab (AL (vs:=[vI (-1),vI (-1)]) (u:=.agg #[vI (-1),vI (-1)]) (e2 rfl rfl) (fun w9=>by kernel_rfl))<|RG.nl [vI 0,vI 0] p0 fun F1 t0 Q0 x1=>AX [vI (-1),vI (-1)] Q0 .hd (ck rfl) fun G1 v0 y1=>Aa<|Aj<|Af<|AT 1 rfl<|AA rfl ((v0.memA .t1) 1 _ rfl)<|Ab (Bh (xs:=a0.fh) underlying32 rfl (Be h0_1 v0))<|Ac rfl<|Aa<|Ar<|tn h fun A1 c1 s0=>MX.lo (α:=Nat × Int × Int) (fun ⟨j0,q0,k0⟩=>[(1,vP x0),(3,vP t0),(22,v0_1),(23,vI ((a0.fh.length:Nat):Int)),(24,vI ((j0:Nat):Int))]) (fun ⟨j0,q0,k0⟩=>[.cells t0 [vI q0,vI k0] 62,.cells x0 [vI a0.fN,v0_1] 34]) (fun ⟨j0,q0,k0⟩=>(j0,q0,k0)) (0,(-1),(-1)) c1 v0 ?_
 rintro q1 ⟨j0,q0,k0⟩ H1 J0 u0 R0 h
 unfold aS_l1 at h
 try dsimp only at h
 refine Af<|Ab (Bq (i:=j0) (j:=a0.fh.length) rfl rfl)<|Aa<|Aj<|AN rfl h (fun B0 h=>?_) (fun B0 h=>?_)
 refine Ao<|Aj<|Ar<|Af<|bk h fun d0 j1 h=>?_
 obtain ⟨p1,s1,Y0,Z0,u1,g1,b1⟩:=Bm (Be h0_1 u0) j1
 obtain rfl:=aU g1
 refine Ab (Bk 2 j0 rfl Y0 rfl rfl Z0)<|Ab (AK rfl b1)<|RG.nl [vI 0,vI 0] u0 fun C1 A0 K0 U0=>AX [vI d0.1,vI d0.2] K0 .hd (ck rfl) fun D1 g0 V0=>Aa<|Aj<|Aj<|du 23 fun b0 c0=>Rv 0 b0 rfl c0 (fun _=>AB (m:=1) (k:=0) (len:=2) rfl rfl rfl rfl (by omega))<|Rx 1 8388604 b0 rfl c0 (AM rfl ((g0.memA .hd) 0 _ rfl))<|Rv 2 b0 rfl c0 (fun _=>FV.lss (i:=d0.1) (j:=0) rfl rfl)<|Rv 3 b0 rfl c0 (fun _=>Ag rfl)<|RD.ifd (s:=31) rfl h (fun C0 h=>?_) (fun C0 h=>?_)
 refine Bi 511 14 [(4,32),(5,33),(6,34),(7,35),(8,36)] (F:=[(31,true)]) (U:=[]) b0 c0 (.cons rfl .nil) .nil ?_
 dsimp only [ax,List.map]
 refine Rv 9 b0 rfl c0 (fun _=>Bj rfl rfl)<|Rv 10 b0 rfl c0 (fun _=>Ag rfl)<|Bi 65535 7 [(11,39),(12,40),(13,41),(14,42),(15,43)] (F:=[(38,true)]) (U:=[]) b0 c0 (.cons rfl .nil) .nil ?_
 dsimp only [ax,List.map]
 refine Rv 16 b0 rfl c0 (fun _=>Bj rfl rfl)<|Rv 17 b0 rfl c0 (fun _=>Ag rfl)<|Bi 4194303 1 [(18,46),(19,47),(20,48),(21,49)] (F:=[(45,true)]) (U:=[]) b0 c0 (.cons rfl .nil) .nil ?_
 dsimp only [ax,List.map]
 refine Rv 22 b0 rfl c0 (fun _=>Bj rfl rfl)<|AZ (dk b0)<|AS rfl<|Af<|Ae rfl<|Aa ?_
 have h:=ao h s0
 refine Aq rfl<|AQ hb0 func21 rfl rfl ?_
 cases h
 exact g0.gv
 refine RD.vP 4 31 b0 rfl c0 (.yes rfl rfl) (fun _=>AB (m:=1) (k:=0) (len:=2) rfl rfl rfl rfl (by omega)) rfl<|RD.val (i:=5) (m' :=63) (W:=8388352) (tk b0) rfl c0 (.yes rfl rfl) (AM rfl ((g0.memA .hd) 0 _ rfl)) rfl<|RD.vP 6 127 b0 rfl c0 (.yes rfl rfl) (fun _=>AB (m:=1) (k:=1) (len:=2) rfl rfl rfl rfl (by omega)) rfl<|RD.val (i:=7) (m' :=255) (W:=8388352) (tk b0) rfl c0 (.yes rfl rfl) (AM rfl ((g0.memA .hd) 1 _ rfl)) rfl<|RD.vP 8 511 b0 rfl c0 (.yes rfl rfl) (fun _=>FV.geq (i:=d0.1) (j:=d0.2) rfl rfl) rfl<|Rv 9 b0 rfl c0 (fun _=>AD rfl rfl)<|Rv 10 b0 rfl c0 (fun _=>Ag rfl)<|RD.ifd (s:=38) rfl h (fun D0 h=>?_) (fun D0 h=>?_)
 refine Bi 65535 7 [(11,39),(12,40),(13,41),(14,42),(15,43)] (F:=[(38,true)]) (U:=[]) b0 c0 (.cons rfl .nil) .nil ?_
 dsimp only [ax,List.map]
 refine Rv 16 b0 rfl c0 (fun _=>Bj rfl rfl)<|Rv 17 b0 rfl c0 (fun _=>Ag rfl)<|Bi 4194303 1 [(18,46),(19,47),(20,48),(21,49)] (F:=[(45,true)]) (U:=[]) b0 c0 (.cons rfl .nil) .nil ?_
 dsimp only [ax,List.map]
 refine Rv 22 b0 rfl c0 (fun _=>Bj rfl rfl)<|AZ (dk b0)<|AS rfl<|Af<|Ae rfl<|Aa ?_
 have h:=ao h s0
 refine Aq rfl<|AQ hb0 func21 rfl rfl ?_
 cases h
 exact g0.gv
 refine RD.vP 11 4095 b0 rfl c0 (.yes rfl rfl) (fun _=>AB (m:=1) (k:=1) (len:=2) rfl rfl rfl rfl (by omega)) rfl<|RD.val (i:=12) (m' :=8191) (W:=8355840) (tk b0) rfl c0 (.yes rfl rfl) (AM rfl ((g0.memA .hd) 1 _ rfl)) rfl<|RD.vP 13 16383 b0 rfl c0 (.yes rfl rfl) (fun _=>BB 0 rfl) rfl<|RD.val (i:=14) (m' :=32767) (W:=8355840) (tk b0) rfl c0 (.yes rfl rfl) (AM rfl ((g0.memA .t2) 0 _ rfl)) rfl<|RD.vP 15 65535 b0 rfl c0 (.yes rfl rfl) (fun _=>FV.geq (i:=d0.2) (j:=a0.fN) rfl rfl) rfl<|Rv 16 b0 rfl c0 (fun _=>AD rfl rfl)<|Rv 17 b0 rfl c0 (fun _=>Ag rfl)<|RD.ifd (s:=45) rfl h (fun E0 h=>?_) (fun E0 h=>?_)
 refine Bi 4194303 1 [(18,46),(19,47),(20,48),(21,49)] (F:=[(45,true)]) (U:=[]) b0 c0 (.cons rfl .nil) .nil ?_
 dsimp only [ax,List.map]
 refine Rv 22 b0 rfl c0 (fun _=>Bj rfl rfl)<|AZ (dk b0)<|AS rfl<|Af<|Ae rfl<|Aa ?_
 have h:=ao h s0
 refine Aq rfl<|AQ hb0 func21 rfl rfl ?_
 cases h
 exact g0.gv
 refine RD.val (i:=18) (m' :=524287) (W:=7340032) (tk b0) rfl c0 (.yes rfl rfl) (FV.sliceA (len:=2) (m:=1) (p:=⟨t0,0,none⟩) rfl rfl) rfl<|RD.val (i:=19) (m' :=1048575) (W:=7340032) (tk b0) rfl c0 (.yes rfl rfl) (FV.sliceA (len:=2) (m:=1) (p:=⟨A0,0,none⟩) rfl rfl) rfl<|bk h fun z0 k1 h=>RD.callq (i:=20) (m' :=2097151) (W:=6291456) (tk b0) rfl c0 (v:=vI z0) (fst:=[]) (cap:=[]) (.yes rfl rfl) (bd 45) rfl (e2 rfl rfl) (fun w9 hw9=>ay_c n (g0.hL0 hL hw9) (Ax (St.lendA (L:=L) g0 .t1 (AE (cs:=[vI q0,vI k0]) (xs:=(([q0,k0]:List Int):List Int)) g0 L (Ay (cs:=[vI q0]) (ds:=[vI k0]) rfl (Ay (cs:=[vI k0]) (ds:=[]) rfl (AJ _ _)))) hL (by unfold bB; simp)) hw9) (Ax (St.lendA (L:=L) g0 .hd (AE (cs:=[vI d0.1,vI d0.2]) (xs:=(([d0.1,d0.2]:List Int):List Int)) g0 L (Ay (cs:=[vI d0.1]) (ds:=[vI d0.2]) rfl (Ay (cs:=[vI d0.2]) (ds:=[]) rfl (AJ _ _)))) hL (by unfold bB; simp)) hw9) k1) rfl<|RD.vP 21 4194303 b0 rfl c0 (.yes rfl rfl) (fun _=>FV.geq (i:=z0) (j:=0) rfl rfl) rfl<|Rv 22 b0 rfl c0 (fun _=>AD rfl rfl)<|AZ (dk b0)<|AN rfl h (fun F0 h=>?_) (fun F0 h=>?_)
 refine Af<|Ae rfl<|Aa ?_
 have h:=ao h s0
 refine Aq rfl<|AQ hb0 func21 rfl rfl ?_
 cases h
 exact g0.gv
 refine Ao<|Ak<|Ab (AK rfl (g0.memA .hd))<|AX [vI d0.1,vI d0.2] g0 .t1 (ck rfl) fun E1 M0 W0=>Aa<|Ap<|Ak<|Ab (AW (i:=j0) (j:=1) rfl rfl (by omega))<|Ac rfl<|Aa ?_
 obtain ⟨P0,X0⟩:=AH M0 .d1
 exact J0 (j0 + 1,d0.1,d0.2) P0 (Tt R0 (Tt U0 (Tt V0 (Tt W0 X0)))) h
 refine AV rfl ?_
 have h:=aI h s0
 try dsimp only at h
 refine Af<|Ae rfl<|Aa<|Aq rfl<|AQ hb0 func21 rfl rfl ?_
 cases h
 exact u0.gv
def bV:List UInt8:=[0,1,2,2,3,3,3,3,4,4,4,4,4,4,4,4,5,5,5,5,5,5,5,5,5,5,5,5,5,5,5,5,6,6,6,6,6,6,6,6,6,6,6,6,6,6,6,6,6,6,6,6,6,6,6,6,6,6,6,6,6,6,6,6,7,7,7,7,7,7,7,7,7,7,7,7,7,7,7,7,7,7,7,7,7,7,7,7,7,7,7,7,7,7,7,7,7,7,7,7,7,7,7,7,7,7,7,7,7,7,7,7,7,7,7,7,7,7,7,7,7,7,7,7,7,7,7,7,8,8,8,8,8,8,8,8,8,8,8,8,8,8,8,8,8,8,8,8,8,8,8,8,8,8,8,8,8,8,8,8,8,8,8,8,8,8,8,8,8,8,8,8,8,8,8,8,8,8,8,8,8,8,8,8,8,8,8,8,8,8,8,8,8,8,8,8,8,8,8,8,8,8,8,8,8,8,8,8,8,8,8,8,8,8,8,8,8,8,8,8,8,8,8,8,8,8,8,8,8,8,8,8,8,8,8,8,8,8,8,8,8,8,8,8,8,8,8,8,8,8,8,8,8,8,8,8]
def aU_p (_n:Nat) (a0:UInt64):Option Int:=
  jn (fun (u2,i3)=>jn (fun (b0,g0)=>jn (fun (q0,s0)=>(bV[(cR q0).toNat]?).bind fun t0=>(chk (s0 + ((t0.toNat:Nat):Int))).bind fun j0=>some j0) (fun d0=>(if (256:UInt64) <= b0 then (chk (g0 + 8)).bind fun k0=>d0 (shrU b0 8,k0) else d0 (b0,g0)))) (fun c0=>(if (65536:UInt64) <= u2 then (chk (((i3:Nat):Int) + 16)).bind fun p0=>c0 (shrU u2 16,p0) else c0 (u2,((i3:Nat):Int))))) (fun J7=>(if (4294967296:UInt64) <= a0 then J7 (shrU a0 32,32) else J7 (a0,0)))
theorem aU_c (n:Nat) {L w} (_hL:hl L w) (a0:UInt64)  {r:Int} (h:aU_p n a0 = some r) :
 Cl 46 #[vU a0] w (ah w fun _ u=>u = vI r):=by
 unfold aU_p at h
 have hS0:=AF w
 refine AG func46 rfl rfl rfl fun _ cs0 hb0=>Af<|Ae rfl<|Aa<|Aj<|Af<|Ac rfl<|Ab (FV.geqU (a:=a0) (b:=(4294967296:UInt64)) rfl rfl)<|Aa<|MX.jo (α:=UInt64 × Nat) (fun ⟨u2,i3⟩=>[(0,vU u2),(2,vI ((i3:Nat):Int))]) (fun ⟨u2,i3⟩=>[]) (fun ⟨u2,i3⟩=>(u2,i3)) hS0 h ?_ ?_
 rintro ⟨u2,i3⟩ wx3 hS4 hT5 h
 try dsimp only at h
 refine Aj<|Af<|Ac rfl<|Ab (FV.geqU (a:=u2) (b:=(65536:UInt64)) rfl rfl)<|Aa<|MX.jo (α:=UInt64 × Int) (fun ⟨b0,d0⟩=>[(0,vU b0),(2,vI d0)]) (fun ⟨b0,d0⟩=>[]) (fun ⟨b0,d0⟩=>(b0,d0)) hS4 h ?_ ?_
 rintro ⟨b0,d0⟩ J0 j0 F0 h
 try dsimp only at h
 refine Aj<|Af<|Ac rfl<|Ab (FV.geqU (a:=b0) (b:=(256:UInt64)) rfl rfl)<|Aa<|MX.jo (α:=UInt64 × Int) (fun ⟨c0,g0⟩=>[(0,vU c0),(2,vI g0)]) (fun ⟨c0,g0⟩=>[]) (fun ⟨c0,g0⟩=>(c0,g0)) j0 h ?_ ?_
 rintro ⟨c0,g0⟩ K0 v0 G0 h
 try dsimp only at h
 refine Af<|Ac rfl<|Ac rfl<|Ab (FV.conv8 (a:=c0) underlying26 underlying5 rfl)<|bk h fun k0 A0 h=>Ab (FV.strIdx (k:=(cR c0).toNat) (tab:=bV) underlying9 rfl rfl rfl rfl A0) ?_
 have H0:=k0.toNat_lt
 refine Ab (FV.convN (i:=k0.toNat) underlying5 underlying3 rfl (by omega))<|bk h fun I0 x0 h=>Ab (Bp (i:=g0) (j:=((k0.toNat:Nat):Int)) rfl rfl x0)<|Ae rfl<|Aa<|Aq rfl<|AQ hb0 func46 rfl rfl ?_
 cases h
 exact v0.gv
 intro E0 q0 h
 try dsimp only at h
 refine AN rfl h (fun s0 h=>?_) (fun s0 h=>?_)
 refine Af<|Ac rfl<|Ab (FV.shrU (a:=b0) (j:=8) rfl rfl)<|Ae rfl<|Aa<|Ak<|Ac rfl<|bk h fun B0 y0 h=>Ab (Bp (i:=d0) (j:=8) rfl rfl y0)<|Ae rfl<|Aa<|q0 (shrU b0 8,B0) j0 (Bs _ _) h
 refine Ao<|q0 (b0,d0) j0 (Bs _ _) h
 intro D0 p0 h
 try dsimp only at h
 refine AN rfl h (fun t0 h=>?_) (fun t0 h=>?_)
 refine Af<|Ac rfl<|Ab (FV.shrU (a:=u2) (j:=16) rfl rfl)<|Ae rfl<|Aa<|Ak<|Ac rfl<|bk h fun C0 z0 h=>Ab (Bp (i:=((i3:Nat):Int)) (j:=16) rfl rfl z0)<|Ae rfl<|Aa<|p0 (shrU u2 16,C0) hS4 (Bs _ _) h
 refine Ao<|p0 (u2,((i3:Nat):Int)) hS4 (Bs _ _) h
 intro J7 hJ8 h
 try dsimp only at h
 refine AN rfl h (fun u0 h=>?_) (fun u0 h=>?_)
 refine Af<|Ac rfl<|Ab (FV.shrU (a:=a0) (j:=32) rfl rfl)<|Ae rfl<|Aa<|Ak<|Ae rfl<|Aa<|hJ8 (shrU a0 32,32) hS0 (Bs _ _) h
 refine Ao<|hJ8 (a0,0) hS0 (Bs _ _) h
def bo_p (n:Nat) (a0:Tb) (a1:UInt64):Option Bool:=
  (aU_p n a1).bind fun b0=>some (decide (b0 <= a0.fN))
theorem bo_c (n:Nat) {L w} (hL:hl L w) (a0:Tb) {v0_1:Value} (_h0_1:Rep.R w L [v0_1] a0.fh) (a1:UInt64)  {r:Bool} (h:bo_p n a0 a1 = some r) :
 Cl 22 #[.agg #[vI a0.fN,v0_1],vU a1] w (ah w fun _ u=>u = .bool r):=by
 unfold bo_p at h
 refine AG func22 rfl rfl rfl fun _ cs0 hb0=>Af<|RG.bx (AF w) rfl rfl fun q0 k0 d0 p0=>Ae rfl<|Aa<|Aj<|du 6 fun b0 c0=>Rv 0 b0 rfl c0 (fun _=>Ag rfl)<|bk h fun g0 j0 h=>RD.cq 1 3 48 (vI g0) b0 rfl c0 (bd 46) rfl (e1 rfl) (fun w9 hw9=>aU_c n (d0.hL0 hL hw9) a1 j0) rfl<|Rv 2 b0 rfl c0 (fun _=>BB 0 rfl)<|Rx 3 48 b0 rfl c0 (AM rfl ((d0.memA .hd) 0 _ rfl))<|Rv 4 b0 rfl c0 (fun _=>FV.leq (i:=g0) (j:=a0.fN) rfl rfl)<|Rv 5 b0 rfl c0 (fun _=>Ba rfl)<|AZ (dk b0)<|Aq rfl<|AQ hb0 func22 rfl rfl ?_
 cases h
 exact d0.gv
def bu_p (n:Nat) (a0:Tb) (a1:UInt64):Option Int:=
  (aS_p n a0).bind fun b0=>(if b0 = 0 then (aU_p n a1).bind fun c0=>(if a0.fN < c0 then some (2:Int) else some (0:Int)) else some b0)
theorem bu_c (n:Nat) {L w} (hL:hl L w) (a0:Tb) {v0_1:Value} (h0_1:Rep.R w L [v0_1] a0.fh) (a1:UInt64)  {r:Int} (h:bu_p n a0 a1 = some r) :
 Cl 47 #[.agg #[vI a0.fN,v0_1],vU a1] w (ah w fun _ u=>u = vI r):=by
 unfold bu_p at h
 refine AG func47 rfl rfl rfl fun _ cs0 hb0=>Af<|RG.bx (AF w) rfl rfl fun x0 u0 b0 v0=>Ae rfl<|Aa<|Aj<|Af<|Ab (AK rfl (b0.memA .hd))<|bk h fun g0 s0 h=>BA (vI g0) (bd 21) rfl (e1 rfl) (fun w9 hw9=>aS_c n (b0.hL0 hL hw9) a0 (b0.k0 h0_1 hw9) s0) rfl<|Ae rfl<|Aa<|Af<|Ac rfl<|Ab (FV.neq (i:=g0) (j:=0) rfl rfl)<|Aa<|MX.ifn rfl h (fun p0 h=>?_) (fun p0 h=>?_)
 refine Ao<|Aj<|Aj<|du 5 fun c0 d0=>Rv 0 c0 rfl d0 (fun _=>Ag rfl)<|bk h fun j0 t0 h=>RD.cq 1 3 16 (vI j0) c0 rfl d0 (bd 46) rfl (e1 rfl) (fun w9 hw9=>aU_c n (b0.hL0 hL hw9) a1 t0) rfl<|Rv 2 c0 rfl d0 (fun _=>BB 0 rfl)<|Rx 3 16 c0 rfl d0 (AM rfl ((b0.memA .hd) 0 _ rfl))<|Rv 4 c0 rfl d0 (fun _=>FV.gtr (i:=j0) (j:=a0.fN) rfl rfl)<|AZ (dk c0)<|AN rfl h (fun q0 h=>?_) (fun q0 h=>?_)
 refine Af<|Ae rfl<|Aa<|Aq rfl<|AQ hb0 func47 rfl rfl ?_
 cases h
 exact b0.gv
 refine Ao<|Af<|Ae rfl<|Aa<|Aq rfl<|AQ hb0 func47 rfl rfl ?_
 cases h
 exact b0.gv
 refine Af<|Ac rfl<|Ae rfl<|Aa<|Aq rfl<|AQ hb0 func47 rfl rfl ?_
 cases h
 exact b0.gv
def bD_p (_n:Nat) (a0:UInt64) (a1:Int):Option Bool:=
  (aL a1).bind fun k1=>some (decide (((shrU a0 k1) &&& (1:UInt64)) = (1:UInt64)))
theorem bD_c (n:Nat) {L w} (_hL:hl L w) (a0:UInt64) {a1:Int}  {r:Bool} (h:bD_p n a0 a1 = some r) :
 Cl 48 #[vU a0,vI a1] w (ah w fun _ u=>u = .bool r):=by
 unfold bD_p at h
 have hS0:=AF w
 refine AG func48 rfl rfl rfl fun _ cs0 hb0=>Af<|Ae rfl<|Aa<|Af<|Ac rfl<|Ac rfl<|bk h fun k1 hk1 h=>Ab (FV.shrI (a:=a0) (i:=a1) rfl rfl hk1)<|Ab (FV.andU (a:=shrU a0 k1) (b:=(1:UInt64)) rfl rfl)<|Ab (FV.eqlU (a:=(shrU a0 k1) &&& (1:UInt64)) (b:=(1:UInt64)) rfl rfl)<|Ae rfl<|Aa<|Aq rfl<|AQ hb0 func48 rfl rfl ?_
 cases h
 exact hS0.gv
def bz_p (_n:Nat) (a0:UInt64) (a1:UInt64):Option (UInt64 × UInt64):=
  (some (((shrU a0 32) * (a1 &&& (4294967295:UInt64))) + (shrU ((a0 &&& (4294967295:UInt64)) * (a1 &&& (4294967295:UInt64))) 32))).bind fun u1=>(some (shrU ((u1 &&& (4294967295:UInt64)) + ((a0 &&& (4294967295:UInt64)) * (shrU a1 32))) 32)).bind fun u2=>some ((((shrU a0 32) * (shrU a1 32)) + (shrU u1 32)) + u2,a0 * a1)
theorem bz_c (n:Nat) {L w} (_hL:hl L w) (a0:UInt64) (a1:UInt64)  {r:UInt64 × UInt64} (h:bz_p n a0 a1 = some r) :
 Cl 93 #[vU a0,vU a1] w (ah w fun _ u=>u = .tuple #[vU r.1,vU r.2]):=by
 unfold bz_p at h
 have hS0:=AF w
 refine AG func93 rfl rfl rfl fun _ cs0 hb0=>Af<|Ae rfl<|Ae rfl<|Aa<|Af<|Ac rfl<|Ab (FV.andU (a:=a0) (b:=(4294967295:UInt64)) rfl rfl)<|Ae rfl<|Aa<|Af<|Ac rfl<|Ab (FV.shrU (a:=a0) (j:=32) rfl rfl)<|Ae rfl<|Aa<|Af<|Ac rfl<|Ab (FV.andU (a:=a1) (b:=(4294967295:UInt64)) rfl rfl)<|Ae rfl<|Aa<|Af<|Ac rfl<|Ab (FV.shrU (a:=a1) (j:=32) rfl rfl)<|Ae rfl<|Aa<|Af<|Ac rfl<|Ac rfl<|Ab (FV.mulU (a:=a0 &&& (4294967295:UInt64)) (b:=a1 &&& (4294967295:UInt64)) rfl rfl)<|Ae rfl<|Aa<|Af<|Ac rfl<|Ac rfl<|Ab (FV.mulU (a:=shrU a0 32) (b:=a1 &&& (4294967295:UInt64)) rfl rfl)<|Ac rfl<|Ab (FV.shrU (a:=(a0 &&& (4294967295:UInt64)) * (a1 &&& (4294967295:UInt64))) (j:=32) rfl rfl)<|bk h fun u1 hu1 h=>Ab (FV.as (FV.addU (a:=(shrU a0 32) * (a1 &&& (4294967295:UInt64))) (b:=shrU ((a0 &&& (4294967295:UInt64)) * (a1 &&& (4294967295:UInt64))) 32) rfl rfl) (congrArg (fun z:UInt64=>Value.int .u64 (z.toNat:Int)) (Option.some.inj hu1)))<|Ae rfl<|Aa<|Af<|Ac rfl<|Ab (FV.andU (a:=u1) (b:=(4294967295:UInt64)) rfl rfl)<|Ae rfl<|Aa<|Af<|Ac rfl<|Ab (FV.shrU (a:=u1) (j:=32) rfl rfl)<|Ae rfl<|Aa<|Af<|Ac rfl<|Ac rfl<|Ac rfl ?_
 refine Ab (FV.mulU (a:=a0 &&& (4294967295:UInt64)) (b:=shrU a1 32) rfl rfl)<|Ab (FV.addU (a:=u1 &&& (4294967295:UInt64)) (b:=(a0 &&& (4294967295:UInt64)) * (shrU a1 32)) rfl rfl)<|Ae rfl<|Aa<|Af<|Ac rfl<|Ac rfl<|Ab (FV.mulU (a:=shrU a0 32) (b:=shrU a1 32) rfl rfl)<|Ac rfl<|Ab (FV.addU (a:=(shrU a0 32) * (shrU a1 32)) (b:=shrU u1 32) rfl rfl)<|Ac rfl<|bk h fun u2 hu2 h=>Ab (FV.as (FV.shrU (a:=(u1 &&& (4294967295:UInt64)) + ((a0 &&& (4294967295:UInt64)) * (shrU a1 32))) (j:=32) rfl rfl) (congrArg (fun z:UInt64=>Value.int .u64 (z.toNat:Int)) (Option.some.inj hu2)))<|Ab (FV.addU (a:=((shrU a0 32) * (shrU a1 32)) + (shrU u1 32)) (b:=u2) rfl rfl)<|Ae rfl<|Aa<|Af<|Ac rfl<|Ac rfl<|Ab (FV.mulU (a:=a0) (b:=a1) rfl rfl)<|Ae rfl<|Aa<|Aq rfl<|Av hb0 func93 rfl (.cons (.tmp rfl) (.cons (.tmp rfl) .nil)) rfl ?_
 cases h
 exact hS0.gv
def bB_p (n:Nat) (a0:UInt64) (a1:UInt64):Option (UInt64 × UInt64):=
  (bz_p n a0 a1).bind fun y1=>some (y1.1,y1.2)
theorem bB_c (n:Nat) {L w} (hL:hl L w) (a0:UInt64) (a1:UInt64)  {r:UInt64 × UInt64} (h:bB_p n a0 a1 = some r) :
 Cl 66 #[vU a0,vU a1] w (ah w fun _ u=>u = .tuple #[vU r.1,vU r.2]):=by
 unfold bB_p at h
 have hS0:=AF w
 refine AG func66 rfl rfl rfl fun _ cs0 hb0=>Af<|Ae rfl<|Ae rfl<|Aa<|Aj<|Bl rfl<|Ao<|Af<|Ac rfl<|Ac rfl<|bk h fun y1 hy1 h=>BA (.tuple #[vU y1.1,vU y1.2]) (bd 93) rfl (e2 rfl rfl) (fun w9 hw9=>bz_c n (hS0.hL0 hL hw9) a0 a1 hy1) rfl<|Ac rfl<|Ab (Am rfl rfl)<|Ab (Am rfl rfl)<|Ae rfl<|Ae rfl<|Aa<|Af<|Ac rfl<|Ac rfl<|Ae rfl<|Ae rfl<|Aa<|Aq rfl<|Av hb0 func66 rfl (.cons (.tmp rfl) (.cons (.tmp rfl) .nil)) rfl ?_
 cases h
 exact hS0.gv
def al_p (_n:Nat) (a0:UInt64):Option Int:=
  (if a0 = (0:UInt64) then some (64:Int) else (tab0[(shrU ((a0 &&& (-a0)) * (285870213051353865:UInt64)) 58).toNat]?).bind fun z2=>some ((z2.toNat:Nat):Int))
theorem al_c (n:Nat) {L w} (_hL:hl L w) (a0:UInt64) (hG0:Glob 0 tab0 w)  {r:Int} (h:al_p n a0 = some r) :
 Cl 68 #[vU a0] w (ah w fun _ u=>u = vI r):=by
 unfold al_p at h
 have hS0:=AF w
 refine AG func68 rfl rfl rfl fun _ cs0 hb0=>Af<|Ae rfl<|Aa<|Aj<|Af<|Ac rfl<|Ab (FV.eqlU (a:=a0) (b:=(0:UInt64)) rfl rfl)<|Aa<|AN rfl h (fun c1 h=>?_) (fun c1 h=>?_)
 refine Af<|Ae rfl<|Aa<|Aq rfl<|AQ hb0 func68 rfl rfl ?_
 cases h
 exact hS0.gv
 refine Ao<|Af<|Ac rfl<|Ac rfl<|Ab (FV.negU (a:=a0) rfl)<|Ab (FV.andU (a:=a0) (b:=-a0) rfl rfl)<|Ab (FV.mulU (a:=a0 &&& (-a0)) (b:=(285870213051353865:UInt64)) rfl rfl)<|Ab (FV.shrU (a:=(a0 &&& (-a0)) * (285870213051353865:UInt64)) (j:=58) rfl rfl)<|bk h fun z2 hz2 h=>Ab (AB (m:=1) (k:=(shrU ((a0 &&& (-a0)) * (285870213051353865:UInt64)) 58).toNat) (len:=64) rfl rfl rfl rfl (tab_lt hz2 rfl))<|AA rfl (hG0.keep hS0.ag _ _ hz2) ?_
 have hu3:=z2.toNat_lt
 refine Ab (FV.convN (i:=z2.toNat) underlying5 underlying3 rfl (by omega))<|Ae rfl<|Aa<|Aq rfl<|AQ hb0 func68 rfl rfl ?_
 cases h
 exact hS0.gv
theorem bE_c (_n:Nat) {L w} (_hL:hl L w) (a0:UInt64)  :
 Cl 50 #[vU a0] w (ah w fun w' u=>∃ b0:Nat,u = .func (.func 67) #[] #[vP b0]/\St w w' [.cells b0 [vU a0] 26]):=by
 refine AG func50 rfl rfl rfl fun _ cs0 hb0=>Af<|RG.bx (AF w) rfl rfl fun g0 b0 c0 d0=>Ae rfl<|Aa<|Af<|Ab (FV.makeFunc (vs:=[]) (us:=[vP b0]) aj (e1 rfl))<|Ae rfl<|Aa<|Aq rfl<|Av (u:=.func (.func 67) #[] #[vP b0]) hb0 func50 rfl (.cons (.tmp rfl) .nil) rfl<|⟨c0.ag,fun w9 hw9=>⟨b0,rfl,c0.agree hw9⟩⟩
theorem eS:ElT Tryz.prog 104 26 (Rep.size UInt64) 8 (vW 0) [vW 0]:=⟨underlying104,by kernel_rfl,rfl,rfl,rfl,rfl⟩
def aZ_l1 (_n:Nat) (a0:Tb) (j0:Nat × (List UInt64) -> Option (List UInt64)):Nat × (List UInt64) -> Option (List UInt64)
  | (c0,d0)=>(if c0 < a0.fh.length then (a0.fh[c0]?).bind fun b0=>(idx d0 b0.1).bind fun q0=>(aL b0.2).bind fun k0=>(put d0 ((b0.1.toNat:Nat):Int) (q0 ||| (shlU (1:UInt64) k0))).bind fun g0=>(idx g0 b0.2).bind fun s0=>(aL b0.1).bind fun p0=>(put g0 ((b0.2.toNat:Nat):Int) (s0 ||| (shlU (1:UInt64) p0))).bind fun t0=>j0 (c0 + 1,t0) else some d0)
def aZ_p (n:Nat) (a0:Tb):Option (List UInt64):=
  (mk a0.fN (0:UInt64)).bind fun b0=>Option.bind (ac (aZ_l1 n a0) n (0,b0)) (fun c0=>some c0)
theorem aZ_c (n:Nat) {L w} (hL:hl L w) (a0:Tb) {v0_1:Value} (h0_1:Rep.R w L [v0_1] a0.fh)  {r:List UInt64} (h:aZ_p n a0 = some r) :
 Cl 69 #[.agg #[vI a0.fN,v0_1]] w (ah w fun w' u=>∃ v0_0:Value,u = v0_0/\Rep.R w' L [v0_0] r):=by
 unfold aZ_p at h
 refine AG func69 rfl rfl rfl fun _ cs0 hb0=>Af<|RG.bx (AF w) rfl rfl fun J2 u2 D0 E2=>Ae rfl<|Aa<|Af<|AT 0 rfl<|AA rfl ((D0.memA .hd) 0 _ rfl)<|bk h fun Y0 U0 h=>Au .plain rfl (Does.mk (α:=UInt64) U0 D0 eS rfl) fun K2 s0 x0 F2=>Ae rfl<|Aa<|Aj<|Af<|AT 1 rfl<|AA rfl ((x0.memA .t1) 1 _ rfl) ?_
 have R0:=Be h0_1 x0
 have H2:a0.fh.length <= 281474976710656:=AY R0
 refine Ab (Bh (xs:=a0.fh) underlying32 rfl R0)<|Ac rfl<|Aa<|Ar ?_
 obtain ⟨u1,z1⟩:=AH x0 (.a0 .done)
 obtain ⟨I2,R1,H1⟩:=ai h
 refine MX.lf (α:=Nat × (List UInt64) × (List Value)) (fun ⟨d0,p0,q0⟩=>[(3,(.slice (some ⟨s0,0,none⟩) a0.fN.toNat a0.fN.toNat)),(10,v0_1),(11,vI ((a0.fh.length:Nat):Int)),(12,vI ((d0:Nat):Int))]) (fun ⟨d0,p0,q0⟩=>[rr w 26 UInt64 (.slice (some ⟨s0,0,none⟩) a0.fN.toNat a0.fN.toNat) p0.length q0]) (fun ⟨d0,p0,q0⟩ V0=>Cells V0 (bl [rr w 26 UInt64 (.slice (some ⟨s0,0,none⟩) a0.fN.toNat a0.fN.toNat) p0.length q0] ++ L) q0 p0) (fun ⟨d0,p0,q0⟩=>(d0,p0)) (0,Y0,(List.replicate a0.fN.toNat [vW 0]).flatten) R1 u1 (Az (AE (cs:=(List.replicate a0.fN.toNat [vW 0]).flatten) (xs:=Y0) x0 L (Cells.mk U0 rfl)) z1) ?_
 rintro t2 ⟨d0,p0,q0⟩ V0 s1 t0 A1 H0 h
 unfold aZ_l1 at h
 try dsimp only at h
 refine Af<|Ab (Bq (i:=d0) (j:=a0.fh.length) rfl rfl)<|Aa<|Aj<|AN rfl h (fun j1 h=>?_) (fun j1 h=>?_)
 refine Ao<|Aj<|Ar<|Af<|bk h fun k0 Y1 h=>?_
 obtain ⟨s2,x2,E1,I1,C2,U1,M1⟩:=Bm (Be h0_1 t0) Y1
 obtain rfl:=aU U1
 refine Ab (Bk 2 d0 rfl E1 rfl rfl I1)<|Ab (AK rfl M1)<|RG.nl [vI 0,vI 0] t0 fun M2 v2 v1 E0=>AX [vI k0.1,vI k0.2] v1 .hd (ck rfl) fun P2 u0 F0=>Aa<|Aj<|du 10 fun b0 g0=>Rv 0 b0 rfl g0 (fun _=>Ag rfl)<|Rv 1 b0 rfl g0 (fun _=>AB (m:=1) (k:=0) (len:=2) rfl rfl rfl rfl (by omega))<|Rx 2 1816 b0 rfl g0 (AM rfl ((u0.memA .hd) 0 _ rfl))<|bk h fun W0 Z1 h=>?_
 obtain ⟨M0,b2⟩:=au Z1
 have Q0:=Az H0 (Tt E0 F0)
 obtain ⟨Z0,y2,y0,B0,k1,V1,P1⟩:=St.nth (α:=UInt64) u0 .t1 Q0 b2
 obtain ⟨c1,z2,J0⟩:=St.nthOwn (α:=UInt64) u0 .t1 B0
 obtain rfl:Z0 = ⟨c1,0,none⟩:=by rw [J0] at y0; cases y0; rfl
 have F1:k1 = [vU W0]:=V1; subst F1
 refine Rv 3 b0 rfl g0 (fun _=>Bk 1 (k0.1.toNat) rfl y0 rfl M0 B0)<|Rx 4 1792 b0 rfl g0 (AM rfl (P1 0 _ rfl))<|Rv 5 b0 rfl g0 (fun _=>AB (m:=1) (k:=1) (len:=2) rfl rfl rfl rfl (by omega))<|Rx 6 1920 b0 rfl g0 (AM rfl ((u0.memA .hd) 1 _ rfl))<|bk h fun k2 J1 h=>Rv 7 b0 rfl g0 (fun _=>FV.shlI (a:=(1:UInt64)) (i:=k0.2) rfl rfl J1)<|Rv 8 b0 rfl g0 (fun _=>FV.orU (a:=W0) (b:=shlU (1:UInt64) k2) rfl rfl)<|Rv 9 b0 rfl g0 (fun _=>Bk 1 (k0.1.toNat) rfl y0 rfl M0 B0)<|bk h fun U2 g2 h=>RD.one (i:=10) (rk b0) (RO.acts (m' :=2047) (sk b0) rfl rfl .plain (Acts.set (α:=UInt64) (i:=k0.1.toNat) g2 u0 J0 (fun _=>.t1) Q0 rfl rfl rfl rfl rfl rfl) (fun Q2 ⟨D2,v0,B1,I0⟩=>?_))
 refine AZ (dk b0)<|du 10 fun c0 j0=>Rv 0 c0 rfl j0 (fun _=>Ag rfl)<|Rv 1 c0 rfl j0 (fun _=>AB (m:=1) (k:=1) (len:=2) rfl rfl rfl rfl (by omega))<|Rx 2 1816 c0 rfl j0 (AM rfl ((v0.memA .hd) 1 _ rfl))<|bk h fun X0 c2 h=>?_
 obtain ⟨P0,d2⟩:=au c2
 obtain ⟨b1,A2,z0,C0,p1,W1,Q1⟩:=St.nth (α:=UInt64) v0 .t1 I0 d2
 obtain ⟨g1,B2,K0⟩:=St.nthOwn (α:=UInt64) v0 .t1 C0
 obtain rfl:b1 = ⟨g1,0,none⟩:=by rw [K0] at z0; cases z0; rfl
 have G1:p1 = [vU X0]:=W1; subst G1
 refine Rv 3 c0 rfl j0 (fun _=>Bk 1 (k0.2.toNat) rfl z0 rfl P0 C0)<|Rx 4 1792 c0 rfl j0 (AM rfl (Q1 0 _ rfl))<|Rv 5 c0 rfl j0 (fun _=>AB (m:=1) (k:=0) (len:=2) rfl rfl rfl rfl (by omega))<|Rx 6 1920 c0 rfl j0 (AM rfl ((v0.memA .hd) 0 _ rfl))<|bk h fun p2 K1 h=>Rv 7 c0 rfl j0 (fun _=>FV.shlI (a:=(1:UInt64)) (i:=k0.1) rfl rfl K1)<|Rv 8 c0 rfl j0 (fun _=>FV.orU (a:=X0) (b:=shlU (1:UInt64) p2) rfl rfl)<|Rv 9 c0 rfl j0 (fun _=>Bk 1 (k0.2.toNat) rfl z0 rfl P0 C0)<|bk h fun q2 j2 h=>RD.one (i:=10) (rk c0) (RO.acts (m' :=2047) (sk c0) rfl rfl .plain (Acts.set (α:=UInt64) (i:=k0.2.toNat) j2 v0 K0 (fun _=>.t1) I0 rfl rfl rfl rfl rfl rfl) (fun R2 ⟨q1,x1,C1,D1⟩=>?_))
 refine AZ (dk c0)<|Ap<|Ak<|Ab (AW (i:=d0) (j:=1) rfl rfl (by omega))<|Ac rfl<|Aa ?_
 obtain ⟨y1,G0⟩:=AH x1 .d1
 exact s1 (d0 + 1,q2,q1) y1 (Tt A1 (Tt E0 (Tt F0 (Tt B1 (Tt C1 G0))))) (Az D1 G0) h
 refine AV rfl ?_
 have h:=H1 _ h
 try dsimp only at h
 refine Af<|Ac rfl<|Ae rfl<|Aa<|Aq rfl ?_
 have A0:=Bt t0 .hd
 have G2:=Bu t0 .hd
 have X1:=Bv (α:=UInt64) (v:=(.slice (some ⟨s0,0,none⟩) a0.fN.toNat a0.fN.toNat)) (xs:=p0) A0 L (Bf (α:=UInt64) t0 .hd H0 hL)
 refine AQ hb0 func69 rfl rfl ?_
 cases h
 exact ⟨A0.ag,fun w9 hw9=>⟨(.slice (some ⟨s0,0,none⟩) a0.fN.toNat a0.fN.toNat),rfl,A0.kd X1 hw9⟩⟩
def bA_l1 (n:Nat) (j0:List UInt64) (d0:UInt64 × UInt64 -> Option UInt64):UInt64 × UInt64 -> Option UInt64
  | (b0,c0)=>(if b0 = (0:UInt64) then some c0 else (al_p n b0).bind fun k0=>(idx j0 k0).bind fun g0=>d0 (b0 &&& (b0 - (1:UInt64)),c0 ||| g0))
def bA_p (n:Nat) (a0:Tb) (a1:UInt64):Option UInt64:=
  (aZ_p n a0).bind fun c0=>Option.bind (ac (bA_l1 n c0) n (a1,0)) (fun b0=>some (b0 &&& ~~~a1))
theorem bA_c (n:Nat) {L w} (hL:hl L w) (a0:Tb) {v0_1:Value} (h0_1:Rep.R w L [v0_1] a0.fh) (a1:UInt64) (hG0:Glob 0 tab0 w)  {r:UInt64} (h:bA_p n a0 a1 = some r) :
 Cl 51 #[.agg #[vI a0.fN,v0_1],vU a1] w (ah w fun _ u=>u = vU r):=by
 unfold bA_p at h
 refine AG func51 rfl rfl rfl fun _ cs0 hb0=>Af<|RG.bx (AF w) rfl rfl fun x2 H0 p0 Z1=>Ae rfl<|Aa<|Af<|Ab (AK rfl (p0.memA .hd))<|bk h fun K2 K1 h=>jE (bd 69) rfl (e1 rfl) (fun w9 hw9=>aZ_c n (p0.hL hL hw9) a0 (p0.km h0_1 hw9) K1) rfl fun B2 F0 v1 ⟨u2,hu_,C0⟩=>?_
 subst hu_
 obtain ⟨X0,j2⟩:=p0.agr v1
 refine RG.nl [vN] X0 fun F2 I0 Y0 A0=>?_
 have B0:=Aw C0 A0
 refine RG.now .plain (AP (news:=[F0]) Y0 .hd rfl rfl rfl (Rep.c1 B0) rfl rfl (o1 (By B0))) fun G2 Z0 p1=>Aa<|Af<|RG.nl [vW 0] Z0 fun R1 J0 u0 q1=>Aa<|Aj<|Af<|Ac rfl<|jE (bd 50) rfl (e1 rfl) (fun w9 hw9=>BC (bE_c n (u0.hL hL hw9) a1) fun (w8:World) (u8:Value) ⟨b0_,hu_,s_⟩=>(⟨b0_,hu_,s_.from hw9⟩:∃ j0:Nat,u8 = Value.func (.func 67) #[] #[vP j0]/\St R1 w8 [.cells j0 [vU a1] 26])) rfl fun H2 v2 k2 ⟨j0,H1,E0⟩=>?_
 subst H1
 have s1:=bb u0 E0
 refine Aa<|Ar<|MX.rangeP (lb:=[vP j0]) rfl (aD u0 E0) rfl (bd 67) func67 rfl rfl rfl fun I2 D0 G0 P1 Y1 b1 u1 Q1 y1 q2=>Ar ?_
 obtain ⟨s2,F1,B1⟩:=ai h
 refine MX.lo (α:=UInt64 × UInt64) (fun ⟨b0,c0⟩=>[(0,.func (.yield D0) #[] #[]),(1,vP j0)]) (fun ⟨b0,c0⟩=>[.obj D0 (lpO P1 .ready none),.obj G0 (.deferred (some [])),.cells j0 [vU b0] 26,.cells J0 [vU c0] 26,.cells I0 [F0] 104,.cells H0 [vI a0.fN,v0_1] 34]) (fun ⟨b0,c0⟩=>(b0,c0)) (a1,0) F1 b1 ?_
 rintro V1 ⟨b0,c0⟩ J2 P0 g0 y0 h
 unfold bA_l1 at h
 try dsimp only at h
 refine Aj<|Af<|AA rfl ((g0.memA .t2) 0 _ rfl)<|Ab (FV.neqU (a:=b0) (b:=(0:UInt64)) rfl rfl)<|Aa<|MX.ifn rfl h (fun K0 h=>?_) (fun K0 h=>?_)
 refine AV rfl ?_
 have h:=B1 _ h
 try dsimp only at h
 refine MX.fin rfl<|Av (u:=.tuple #[]) y1 func67 rfl .nil rfl<|MX.endRange0 g0 .hd (by intro h9; cases h9) fun y2 Q0 b2=>?_
 obtain ⟨x0,c2⟩:=AH Q0 .d1
 refine Ap<|Af<|AA rfl ((x0.memA .t2) 0 _ rfl)<|Ac rfl<|Ab (FV.andNotU (a:=c0) (b:=a1) rfl rfl)<|Ae rfl<|Aa<|Aq rfl<|RT.take x0 .hd fun z2 R0 d2=>?_
 obtain ⟨U0,g2⟩:=AH R0 .d1
 refine AQ hb0 func51 rfl rfl ?_
 cases h
 exact U0.gv
 refine Ao<|Aj<|Ar<|Af<|Ac rfl<|AA rfl ((g0.memA .t2) 0 _ rfl)<|bk h fun v0 M1 h=>BA (vI v0) (bd 68) rfl (e1 rfl) (fun w9 hw9=>al_c n (g0.hL0 hL hw9) b0 (hG0.keep (g0.ag.trans hw9)) M1) rfl<|RG.yieldP (fd:=51) (vs:=[vI v0]) .plain rfl (e1 rfl) g0 .hd Q1 rfl rfl rfl fun X1 x1 p2=>Ak<|Ae rfl<|Aa<|MX.begin g0 .hd fun A2 s0 z0=>Ar<|du 6 fun d0 k0=>Rx 0 96 d0 rfl k0 (AM rfl ((s0.memA .t3) 0 _ rfl))<|Rx 1 120 d0 rfl k0 (AM rfl ((s0.memA .t4) 0 _ rfl))<|Rv 2 d0 rfl k0 (fun _=>Ag rfl)<|bk h fun q0 I1 h=>?_
 obtain ⟨C1,J1⟩:=au I1
 obtain ⟨U1,W1,z1,D1,M0,G1,E1⟩:=Bm (Aw C0 (Tt A0 (Tt p1 (Tt q1 (Tt s1 (Tt u1 (Tt y0 z0))))))) J1
 have A1:M0 = [vU q0]:=G1; subst A1
 refine Rv 3 d0 rfl k0 (fun _=>Bk 1 (v0.toNat) rfl z1 rfl C1 D1)<|Rx 4 96 d0 rfl k0 (AM rfl (E1 0 _ rfl))<|Rv 5 d0 rfl k0 (fun _=>FV.orU (a:=c0) (b:=q0) rfl rfl)<|RD.nw 6 127 d0 rfl rfl .plain (AP (news:=[vW ((c0 ||| q0).toNat:Int)]) s0 .t3 rfl rfl rfl rfl rfl rfl (o1 rfl)) fun C2 V0 g1=>AZ (dk d0)<|Ap<|MX.roundEnd x1 V0 .hd fun D2 t0 j1=>Ab (FV.not rfl)<|Aa<|Bl rfl<|Ao<|Ap<|Ak<|AA rfl ((t0.memA .t2) 0 _ rfl)<|AA rfl ((t0.memA .t2) 0 _ rfl)<|Ab (FV.subU (a:=b0) (b:=(1:UInt64)) rfl rfl)<|Ab (FV.andU (a:=b0) (b:=b0 - (1:UInt64)) rfl rfl)<|AX [vW ((b0 &&& (b0 - (1:UInt64))).toNat:Int)] t0 .t2 (o1 rfl) fun E2 W0 k1=>Aa<|P0 (b0 &&& (b0 - (1:UInt64)),c0 ||| q0) W0 (Tt y0 (Tt z0 (Tt g1 (Tt j1 k1)))) h
theorem aq:ElT Tryz.prog 41 3 (Rep.size Int) 8 (vI 0) [vI 0]:=⟨underlying41,by kernel_rfl,rfl,rfl,rfl,rfl⟩
def aK_l1 (n:Nat) (k0:Int) (g0:UInt64 × (List Int) -> Option (List Int)):UInt64 × (List Int) -> Option (List Int)
  | (b0,c0)=>(if b0 = (0:UInt64) then some c0 else (al_p n b0).bind fun d0=>(idx c0 d0).bind fun _x694=>(put c0 ((d0.toNat:Nat):Int) k0).bind fun j0=>g0 (b0 &&& (b0 - (1:UInt64)),j0))
def aK_l2 (n:Nat) (a0:Tb) (a1:UInt64) (k0:UInt64 × UInt64 × Int × (List Int) -> Option (List Int)):UInt64 × UInt64 × Int × (List Int) -> Option (List Int)
  | (b0,c0,j0,d0)=>(if c0 = (0:UInt64) then some d0 else Option.bind (ac (aK_l1 n j0) n (c0,d0)) (fun q0=>(bA_p n a0 b0).bind fun g0=>(chk (j0 + 1)).bind fun p0=>k0 (b0 ||| (g0 &&& a1),g0 &&& a1,p0,q0)))
def aK_l3 (_n:Nat) (j0:Nat × (List Int) -> Option (List Int)):Nat × (List Int) -> Option (List Int)
  | (c0,b0)=>(if c0 < b0.length then (cut b0 ((c0:Nat):Int) (b0.length:Int)).bind fun d0=>(cut b0 0 ((c0:Nat):Int)).bind fun g0=>j0 (c0 + (min g0.length d0.length),cpy b0 (((c0:Nat):Int).toNat) d0.length g0) else some b0)
def aK_p (n:Nat) (a0:Tb) (a1:UInt64) (a2:Int):Option ((List Int) × Int):=
  (bu_p n a0 a1).bind fun g0=>(if g0 = 0 then (if a2 < 0 then some (([]:List Int),(2:Int)) else (if a0.fN <= a2 then some (([]:List Int),(2:Int)) else (bD_p n a1 a2).bind fun p0=>(if p0 = true then (if a0.fN < 0 then none else (bB_p n (ae ((([(-1:Int)]:List Int).length:Nat):Int)) (ae a0.fN)).bind fun c0=>(if (0:UInt64) < c0.1 then none else (if (9223372036854775807:UInt64) < c0.2 then none else (mk (ab c0.2) (0:Int)).bind fun b0=>Option.bind (ac (aK_l3 n) n (min (([(-1:Int)]:List Int).length) b0.length,cpy b0 0 b0.length ([(-1:Int)]:List Int))) (fun j0=>(aL a2).bind fun d0=>Option.bind (ac (aK_l2 n a0 a1) n (shlU (1:UInt64) d0,shlU (1:UInt64) d0,0,j0)) (fun k0=>some (k0,(0:Int))))))) else some (([]:List Int),(2:Int))))) else some (([]:List Int),g0))
theorem aK_c (n:Nat) {L w} (hL:hl L w) (a0:Tb) {v0_1:Value} (h0_1:Rep.R w L [v0_1] a0.fh) (a1:UInt64) {a2:Int} (hG0:Glob 0 tab0 w)  {r:(List Int) × Int} (h:aK_p n a0 a1 a2 = some r) :
 Cl 23 #[.agg #[vI a0.fN,v0_1],vU a1,vI a2] w (ah w fun w' u=>∃ v0_0:Value,u = .tuple #[v0_0,vI r.2]/\Rep.R w' L [v0_0] r.1):=by
 unfold aK_p at h
 refine AG func23 rfl rfl rfl fun _ cs0 hb0=>Af<|RG.bx (AF w) rfl rfl fun K5 q0 d0 j5=>Ae rfl<|Ae rfl<|Aa<|Aj<|Af<|Ab (AK rfl (d0.memA .hd))<|Ac rfl<|bk h fun j2 D4 h=>BA (vI j2) (bd 47) rfl (e2 rfl rfl) (fun w9 hw9=>bu_c n (d0.hL0 hL hw9) a0 (d0.k0 h0_1 hw9) a1 D4) rfl<|Ae rfl<|Aa<|Af<|Ac rfl<|Ab (FV.neq (i:=j2) (j:=0) rfl rfl)<|Aa<|MX.ifn rfl h (fun s2 h=>?_) (fun s2 h=>?_)
 refine Ao<|Aj<|Af<|Ac rfl<|Ab (FV.lss (i:=a2) (j:=0) rfl rfl)<|Ac rfl<|Bn (s:=22) rfl h (fun u2 h=>?_) (fun u2 h=>?_)
 refine Ah<|Ah<|Ah<|Ah<|Bd rfl rfl<|Ac rfl<|Ah<|Ah<|Ah<|Ah<|Bd rfl rfl<|Aa<|AS rfl<|Af<|Ae rfl<|Ae rfl<|Aa<|Aq rfl ?_
 have g4:=Bo (α:=Int) d0 L
 refine Av hb0 func23 rfl (.cons (.tmp rfl) (.cons (.tmp rfl) .nil)) rfl ?_
 cases h
 exact ⟨d0.ag,fun w9 hw9=>⟨vN,rfl,d0.kd g4 hw9⟩⟩
 refine Al (Ag rfl)<|RG.fg 0 rfl<|Al (AM rfl ((d0.memA .hd) 0 _ rfl))<|Al (FV.geq (i:=a2) (j:=a0.fN) rfl rfl)<|Bb rfl rfl<|Ac rfl<|Bn (s:=28) rfl h (fun v2 h=>?_) (fun v2 h=>?_)
 refine Ah<|Ah<|Ah<|Ah<|Bd rfl rfl<|Aa<|AS rfl<|Af<|Ae rfl<|Ae rfl<|Aa<|Aq rfl ?_
 have j4:=Bo (α:=Int) d0 L
 refine Av hb0 func23 rfl (.cons (.tmp rfl) (.cons (.tmp rfl) .nil)) rfl ?_
 cases h
 exact ⟨d0.ag,fun w9 hw9=>⟨vN,rfl,d0.kd j4 hw9⟩⟩
 refine Al (Ag rfl)<|Al (Ag rfl)<|bk h fun P4 E4 h=>RG.callq' (v:=.bool P4) (fst:=[]) (cap:=[]) (.yes rfl rfl) (bd 48) rfl (e2 rfl rfl) (fun w9 hw9=>bD_c n (d0.hL0 hL hw9) a1 E4) rfl<|Al (FV.not rfl)<|Bb rfl rfl<|Aa<|MX.ifnb rfl h (fun x2 h=>?_) (fun x2 h=>?_)
 refine Ao<|Af<|Au .plain rfl (jA ((-1:Int)) (vI (-1)) d0 aq (e1 rfl)) fun U5 g1 K0 k5=>?_
 have J3:=jC ((-1:Int)) (vI (-1)) K0 L rfl
 refine AT 0 rfl<|AA rfl ((K0.memA .t1) 0 _ rfl)<|RG.enterP (fst:=[]) (cap:=[]) (vs:=[(vS g1 1),vI a0.fN]) .plain (bd 49) func49 rfl rfl rfl rfl (e2 rfl rfl) rfl fun c5 F3 z5=>Af<|Ae rfl<|Aa<|Aj<|Af<|Ac rfl<|Ab (FV.lss (i:=a0.fN) (j:=0) rfl rfl)<|Aa<|AN rfl h (fun y2 h=>?_) (fun y2 h=>?_)
 refine Ak ?_
 cases h
 refine Ao<|Af<|Ac rfl ?_
 have v5:([(-1:Int)]:List Int).length <= 4294967296:=St.rowLe (α:=Int) K0 .hd
 obtain ⟨R4,Y4,Q3⟩:=St.rowV (α:=Int) K0 .hd
 refine Ab (FV.lenV underlying41 rfl Q3)<|Ab (FV.convU (i:=((([(-1:Int)]:List Int).length:Nat):Int)) underlying3 underlying38 rfl)<|Ac rfl<|Ab (FV.convU (i:=a0.fN) underlying3 underlying38 rfl)<|bk h fun b0 F4 h=>BA (.tuple #[vU b0.1,vU b0.2]) (bd 66) rfl (e2 rfl rfl) (fun w9 hw9=>bB_c n (K0.hL0 hL hw9) (ae ((([(-1:Int)]:List Int).length:Nat):Int)) (ae a0.fN) F4) rfl<|Ac rfl<|Ab (Am rfl rfl)<|Ab (Am rfl rfl)<|Ae rfl<|Ae rfl<|Aa<|Aj<|Af<|Ac rfl<|Ab (FV.gtrU (a:=b0.1) (b:=(0:UInt64)) rfl rfl)<|Ac rfl<|Bn (s:=23) rfl h (fun z2 h=>?_) (fun z2 h=>?_)
 refine Ah<|Ah<|Bd rfl rfl<|Aa<|AS rfl<|Ak ?_
 cases h
 refine Al (Ag rfl)<|Al (FV.gtrU (a:=b0.2) (b:=(9223372036854775807:UInt64)) rfl rfl)<|Bb rfl rfl<|Aa<|AN rfl h (fun A2 h=>?_) (fun A2 h=>?_)
 refine Ak ?_
 cases h
 refine Ao<|Af<|Ac rfl<|Ab (FV.convUI (a:=b0.2) underlying38 underlying3 rfl)<|bk h fun Q0 V1 h=>Au .plain rfl (Does.mk (α:=Int) V1 K0 aq rfl) fun V5 c0 R0 q3=>Ae rfl<|Aa<|Af<|Ac rfl<|Ac rfl ?_
 have x5:Q0.length <= 4294967296:=St.rowLe (α:=Int) R0 .hd
 refine Bz .plain rfl (DoesL.copy (α:=Int) (ys:=([(-1:Int)]:List Int)) (m:=Q0.length) (lo:=0) rfl R0 (SubV.whole (α:=Int) R0 .hd) (fun _=>.hd) rfl rfl rfl (AE (cs:=(List.replicate (ab b0.2).toNat [vI 0]).flatten) (xs:=Q0) R0 L (Cells.mk V1 rfl)) (Src.row (α:=Int) R0 .t1 (Az J3 q3))) fun G5 W5 ⟨x4,E2,R2,p5,K3⟩=>?_
 subst x4
 refine Ae rfl<|Aa<|Aj<|Ar ?_
 obtain ⟨C5,Z3,U3⟩:=ai h
 refine MX.lf (α:=Nat × (List Int) × (List Value)) (fun ⟨B0,y0,E0⟩=>[(7,(.slice (some ⟨c0,0,none⟩) (ab b0.2).toNat (ab b0.2).toNat)),(8,vI ((B0:Nat):Int))]) (fun ⟨B0,y0,E0⟩=>[rr w 3 Int (.slice (some ⟨c0,0,none⟩) (ab b0.2).toNat (ab b0.2).toNat) y0.length E0,rr w 3 Int (vS g1 1) (([(-1:Int)]:List Int).length) [vI (-1)],.cells q0 [vI a0.fN,v0_1] 34]) (fun ⟨B0,y0,E0⟩ d2=>Cells d2 (bl [rr w 3 Int (.slice (some ⟨c0,0,none⟩) (ab b0.2).toNat (ab b0.2).toNat) y0.length E0,rr w 3 Int (vS g1 1) (([(-1:Int)]:List Int).length) [vI (-1)],.cells q0 [vI a0.fN,v0_1] 34] ++ L) E0 y0) (fun ⟨B0,y0,E0⟩=>(B0,y0)) (min (([(-1:Int)]:List Int).length) Q0.length,cpy Q0 0 Q0.length ([(-1:Int)]:List Int),E2) Z3 R2 K3 ?_
 rintro U4 ⟨B0,y0,E0⟩ d2 H2 H0 c3 u1 h
 unfold aK_l3 at h
 try dsimp only at h
 refine Aj<|Af<|Ac rfl<|Ac rfl ?_
 have u5:y0.length <= 4294967296:=St.rowLe (α:=Int) H0 .hd
 obtain ⟨Q4,X4,P3⟩:=St.rowV (α:=Int) H0 .hd
 refine Ab (FV.lenV underlying41 rfl P3)<|Ab (Bq (i:=B0) (j:=y0.length) rfl rfl)<|Aa<|AN rfl h (fun q2 h=>?_) (fun q2 h=>?_)
 refine Ao<|Ar<|du 7 fun v0 J0=>Rv 0 v0 rfl J0 (fun _=>Ag rfl)<|Rv 1 v0 rfl J0 (fun _=>Ag rfl)<|Rv 2 v0 rfl J0 (fun _=>Ag rfl)<|bk h fun Y0 B4 h=>RD.valE (i:=3) (m' :=15) (W:=896) (tk v0) rfl J0 .plain rfl (FV.cutRow (α:=Int) B4 H0 .hd rfl rfl ⟨_,rfl⟩ rfl) fun H5 R1=>Rv 4 v0 rfl J0 (fun _=>Ag rfl)<|Rv 5 v0 rfl J0 (fun _=>Ag rfl)<|bk h fun Z0 U1 h=>RD.valE (i:=6) (m' :=127) (W:=896) (tk v0) rfl J0 .plain rfl (FV.cutRow (α:=Int) U1 H0 .hd rfl rfl rfl ⟨_,rfl⟩) fun I5 d4=>RD.one (i:=7) (rk v0) (RO.doesL (m' :=255) (sk v0) rfl rfl .plain rfl (DoesL.copy (α:=Int) (ys:=Z0) (m:=Y0.length) (lo:=((B0:Nat):Int).toNat) rfl H0 R1 (fun _=>.hd) rfl rfl rfl u1 (Src.sub (α:=Int) H0 .hd u1 U1 d4)) (fun F5 M5 ⟨v4,D2,K2,d3,I3⟩=>?_))
 subst v4
 have:=R1.le
 refine RD.one (i:=8) (rk v0) (RO.val (m' :=511) (sk v0) rfl .plain rfl (AW (i:=B0) (j:=min Z0.length Y0.length) rfl rfl (by omega)) ?_)
 refine RD.one (i:=9) (rk v0) (RO.val (m' :=1023) (sk v0) rfl .plain rfl (Ba rfl) ?_)
 refine AZ (dk v0)<|Ap<|H2 (B0 + (min Z0.length Y0.length),cpy y0 (((B0:Nat):Int).toNat) Y0.length Z0,D2) K2 (Tt c3 d3) I3 h
 refine AV rfl ?_
 have h:=U3 _ h
 try dsimp only at h
 refine Af<|Ac rfl<|Ae rfl<|Aa<|Aq rfl<|Av (u:=(.slice (some ⟨c0,0,none⟩) (ab b0.2).toNat (ab b0.2).toNat)) F3 func49 rfl (.cons (.tmp rfl) .nil) rfl<|RG.nl [vN] H0 fun P5 t0 k1 g3=>RG.now .plain (AP (news:=[(.slice (some ⟨c0,0,none⟩) (ab b0.2).toNat (ab b0.2).toNat)]) k1 .hd rfl rfl rfl (St.c1 (α:=Int) k1 .t1) rfl rfl (o1 (St.o1 (α:=Int) k1 .t1))) fun Q5 M2 j3=>Aa<|Af<|Ac rfl<|bk h fun W1 Y3 h=>Ab (FV.shlI (a:=(1:UInt64)) (i:=a2) rfl rfl Y3)<|Ae rfl<|Aa<|Aj<|Af<|Ac rfl<|RG.nl [vI 0] M2 fun R5 y1 P2 k3=>AX [vI 0] P2 .hd (o1 rfl) fun J4 Q2 p3=>Ae rfl<|Aa<|Ar ?_
 obtain ⟨U2,s3⟩:=AH Q2 (.a0 (.a0 (.a0 .d1)))
 obtain ⟨D5,b4,V3⟩:=ai h
 refine MX.loopD (α:=UInt64 × UInt64 × Int × (List Int) × (List Nat) × Nat × (List Value)) (fun ⟨F0,C0,j0,u0,p0,s0,x0⟩=>[(1,vU a1),(3,vP q0),(9,vP t0),(10,vU F0),(11,vP s0),(12,vU C0)]) (fun ⟨F0,C0,j0,u0,p0,s0,x0⟩ P0=>St w P0 (.cells s0 [vI j0] 3 :: .cells t0 [(.slice (some ⟨c0,0,none⟩) (ab b0.2).toNat (ab b0.2).toNat)] 41 :: rr w 3 Int (.slice (some ⟨c0,0,none⟩) (ab b0.2).toNat (ab b0.2).toNat) u0.length x0 :: .cells q0 [vI a0.fN,v0_1] 34 :: (bm p0 ++ []))/\Tr J4 [.cells y1 [vI 0] 3,.cells t0 [(.slice (some ⟨c0,0,none⟩) (ab b0.2).toNat (ab b0.2).toNat)] 41,rr w 3 Int (.slice (some ⟨c0,0,none⟩) (ab b0.2).toNat (ab b0.2).toNat) y0.length E0,.cells q0 [vI a0.fN,v0_1] 34] P0 (.cells s0 [vI j0] 3 :: .cells t0 [(.slice (some ⟨c0,0,none⟩) (ab b0.2).toNat (ab b0.2).toNat)] 41 :: rr w 3 Int (.slice (some ⟨c0,0,none⟩) (ab b0.2).toNat (ab b0.2).toNat) u0.length x0 :: .cells q0 [vI a0.fN,v0_1] 34 :: (bm p0 ++ []))/\Cells P0 (bl (.cells s0 [vI j0] 3 :: .cells t0 [(.slice (some ⟨c0,0,none⟩) (ab b0.2).toNat (ab b0.2).toNat)] 41 :: rr w 3 Int (.slice (some ⟨c0,0,none⟩) (ab b0.2).toNat (ab b0.2).toNat) u0.length x0 :: .cells q0 [vI a0.fN,v0_1] 34 :: (bm p0 ++ [])) ++ L) x0 u0) (fun ⟨F0,C0,j0,u0,p0,s0,x0⟩=>(F0,C0,j0,u0)) (fun ⟨F0,C0,j0,u0,p0,s0,x0⟩=>cols p0) (shlU (1:UInt64) W1,shlU (1:UInt64) W1,0,y0,(([]:List Nat)),y1,E0) rfl b4 ⟨rfl,rfl,rfl,rfl,rfl,rfl,trivial⟩ ⟨U2,Bs _ _,(Az u1 (Tt g3 (Tt j3 (Tt k3 (Tt p3 s3)))))⟩ ?_
 rintro V4 ⟨F0,C0,j0,u0,p0,s0,x0⟩ P0 I2 ⟨U0,u3,I1⟩ h
 unfold aK_l2 at h
 try dsimp only at h
 refine Aj<|Af<|Ac rfl<|Ab (FV.neqU (a:=C0) (b:=(0:UInt64)) rfl rfl)<|Aa<|MX.ifn rfl h (fun B2 h=>?_) (fun B2 h=>?_)
 refine AV rfl ?_
 have h:=V3 _ h
 try dsimp only at h
 refine Af<|AA rfl ((U0.memA .t1) 0 _ rfl)<|Ae rfl<|Ae rfl<|Aa<|Aq rfl<|RT.takes (O1:=[.cells s0 [vI j0] 3,.cells t0 [(.slice (some ⟨c0,0,none⟩) (ab b0.2).toNat (ab b0.2).toNat)] 41,rr w 3 Int (.slice (some ⟨c0,0,none⟩) (ab b0.2).toNat (ab b0.2).toNat) u0.length x0,.cells q0 [vI a0.fN,v0_1] 34]) (O2:=[]) (Ds:=p0) U0 fun Z1 V2 v3=>?_
 have p1:St _ Z1 [.cells s0 [vI j0] 3,.cells t0 [(.slice (some ⟨c0,0,none⟩) (ab b0.2).toNat (ab b0.2).toNat)] 41,rr w 3 Int (.slice (some ⟨c0,0,none⟩) (ab b0.2).toNat (ab b0.2).toNat) u0.length x0,.cells q0 [vI a0.fN,v0_1] 34]:=V2
 have x3:Tr P0 (.cells s0 [vI j0] 3 :: .cells t0 [(.slice (some ⟨c0,0,none⟩) (ab b0.2).toNat (ab b0.2).toNat)] 41 :: rr w 3 Int (.slice (some ⟨c0,0,none⟩) (ab b0.2).toNat (ab b0.2).toNat) u0.length x0 :: .cells q0 [vI a0.fN,v0_1] 34 :: (bm p0 ++ [])) Z1 [.cells s0 [vI j0] 3,.cells t0 [(.slice (some ⟨c0,0,none⟩) (ab b0.2).toNat (ab b0.2).toNat)] 41,rr w 3 Int (.slice (some ⟨c0,0,none⟩) (ab b0.2).toNat (ab b0.2).toNat) u0.length x0,.cells q0 [vI a0.fN,v0_1] 34]:=v3
 have q1:=Bt p1 .t2
 have q5:=Bu p1 .t2
 have k4:=Bv (α:=Int) (v:=(.slice (some ⟨c0,0,none⟩) (ab b0.2).toNat (ab b0.2).toNat)) (xs:=u0) q1 L (Bf (α:=Int) p1 .t2 (Az I1 x3) hL)
 refine Av hb0 func23 rfl (.cons (.tmp rfl) (.cons (.tmp rfl) .nil)) rfl ?_
 cases h
 exact ⟨q1.ag,fun w9 hw9=>⟨(.slice (some ⟨c0,0,none⟩) (ab b0.2).toNat (ab b0.2).toNat),rfl,q1.kd k4 hw9⟩⟩
 refine Ao<|Aj<|Ar<|Aj<|Af<|Ac rfl<|jE (bd 50) rfl (e1 rfl) (fun w9 hw9=>BC (bE_c n (U0.hL hL hw9) C0) fun (w8:World) (u8:Value) ⟨b0_,hu_,s_⟩=>(⟨b0_,hu_,s_.from hw9⟩:∃ D0:Nat,u8 = Value.func (.func 67) #[] #[vP D0]/\St P0 w8 [.cells D0 [vU C0] 26])) rfl fun X5 J5 s5 ⟨D0,y4,Y1⟩=>?_
 subst y4
 have C1:=bb U0 Y1
 refine Aa<|Ar<|MX.rangeP (lb:=[vP D0]) rfl (aD U0 Y1) rfl (bd 67) func67 rfl rfl rfl fun Y5 x1 G0 X1 d5 W2 D1 I4 G3 A5=>Ar ?_
 obtain ⟨E5,c4,W3⟩:=ai h
 refine MX.lf (α:=UInt64 × (List Int) × (List Value)) (fun ⟨g0,z0,A0⟩=>[(0,.func (.yield x1) #[] #[]),(1,vP D0)]) (fun ⟨g0,z0,A0⟩=>(.obj x1 (lpO X1 .ready none) :: .obj G0 (.deferred (some [])) :: .cells D0 [vU g0] 26 :: .cells s0 [vI j0] 3 :: .cells t0 [(.slice (some ⟨c0,0,none⟩) (ab b0.2).toNat (ab b0.2).toNat)] 41 :: rr w 3 Int (.slice (some ⟨c0,0,none⟩) (ab b0.2).toNat (ab b0.2).toNat) z0.length A0 :: .cells q0 [vI a0.fN,v0_1] 34 :: (bm p0 ++ []))) (fun ⟨g0,z0,A0⟩ g2=>Cells g2 (bl (.obj x1 (lpO X1 .ready none) :: .obj G0 (.deferred (some [])) :: .cells D0 [vU g0] 26 :: .cells s0 [vI j0] 3 :: .cells t0 [(.slice (some ⟨c0,0,none⟩) (ab b0.2).toNat (ab b0.2).toNat)] 41 :: rr w 3 Int (.slice (some ⟨c0,0,none⟩) (ab b0.2).toNat (ab b0.2).toNat) z0.length A0 :: .cells q0 [vI a0.fN,v0_1] 34 :: (bm p0 ++ [])) ++ L) A0 z0) (fun ⟨g0,z0,A0⟩=>(g0,z0)) (C0,u0,x0) c4 W2 (Az I1 (Tt C1 D1)) ?_
 rintro W4 ⟨g0,z0,A0⟩ g2 J2 I0 E1 J1 h
 unfold aK_l1 at h
 try dsimp only at h
 refine Aj<|Af<|AA rfl ((I0.memA .t2) 0 _ rfl)<|Ab (FV.neqU (a:=g0) (b:=(0:UInt64)) rfl rfl)<|Aa<|MX.ifn rfl h (fun C2 h=>?_) (fun C2 h=>?_)
 refine AV rfl ?_
 have h:=W3 _ h
 try dsimp only at h
 refine MX.fin rfl<|Av (u:=.tuple #[]) G3 func67 rfl .nil rfl<|MX.endRange0 I0 .hd (by intro h9; cases h9) fun b2 z1 y3=>?_
 have M0:St _ _ (.obj G0 (.deferred (some [])) :: .cells D0 [vU g0] 26 :: .cells s0 [vI j0] 3 :: .cells t0 [(.slice (some ⟨c0,0,none⟩) (ab b0.2).toNat (ab b0.2).toNat)] 41 :: rr w 3 Int (.slice (some ⟨c0,0,none⟩) (ab b0.2).toNat (ab b0.2).toNat) z0.length A0 :: .cells q0 [vI a0.fN,v0_1] 34 :: (bm p0 ++ [])):=z1.arr2 (.one .t1 (.one .t1 (.one .t1 (.one .t1 (.one .t1 (.one .t1 (.drop .hd .rest)))))))
 have z3:Tr b2 _ b2 (.obj G0 (.deferred (some [])) :: .cells D0 [vU g0] 26 :: .cells s0 [vI j0] 3 :: .cells t0 [(.slice (some ⟨c0,0,none⟩) (ab b0.2).toNat (ab b0.2).toNat)] 41 :: rr w 3 Int (.slice (some ⟨c0,0,none⟩) (ab b0.2).toNat (ab b0.2).toNat) z0.length A0 :: .cells q0 [vI a0.fN,v0_1] 34 :: (bm p0 ++ [])):=Tr.arr2 (St.arr2Of z1 (.one .t1 (.one .t1 (.one .t1 (.one .t1 (.one .t1 (.one .t1 (.drop .hd .rest))))))))
 refine Ap<|Af<|Ab (AK rfl (M0.memA .t5))<|Ac rfl<|bk h fun W0 G4 h=>BA (vU W0) (bd 51) rfl (e2 rfl rfl) (fun w9 hw9=>bA_c n (M0.hL0 hL hw9) a0 (M0.k0 h0_1 hw9) F0 (hG0.keep (M0.ag.trans hw9)) G4) rfl<|Ac rfl<|Ab (FV.andU (a:=W0) (b:=a1) rfl rfl)<|Ae rfl<|Aa<|Ak<|Ac rfl<|Ac rfl<|Ab (FV.orU (a:=F0) (b:=W0 &&& a1) rfl rfl)<|Ae rfl<|Aa<|Ap<|Aj<|Af<|AA rfl ((M0.memA .t2) 0 _ rfl)<|Aa<|Ak<|RG.nl [vI 0] M0 fun Z5 j1 X2 A3=>AX [vI j0] X2 .hd (o1 rfl) fun b6 A1 B3=>Aa<|Ak<|AA rfl ((A1.memA .hd) 0 _ rfl)<|bk h fun X0 u4 h=>Ab (Bp (i:=j0) (j:=1) rfl rfl u4)<|AX [vI X0] A1 .hd (o1 rfl) fun c2 B1 C3=>Aa ?_
 have Y2:St _ _ (.cells j1 [vI X0] 3 :: .cells t0 [(.slice (some ⟨c0,0,none⟩) (ab b0.2).toNat (ab b0.2).toNat)] 41 :: rr w 3 Int (.slice (some ⟨c0,0,none⟩) (ab b0.2).toNat (ab b0.2).toNat) z0.length A0 :: .cells q0 [vI a0.fN,v0_1] 34 :: .obj G0 (.deferred (some [])) :: (bm p0 ++ [])):=B1.arr2 (.one .hd (.one .t3 (.one .t3 (.one .t3 (.one .hd (.drop .hd (.drop .hd .rest)))))))
 have D3:Tr c2 _ c2 (.cells j1 [vI X0] 3 :: .cells t0 [(.slice (some ⟨c0,0,none⟩) (ab b0.2).toNat (ab b0.2).toNat)] 41 :: rr w 3 Int (.slice (some ⟨c0,0,none⟩) (ab b0.2).toNat (ab b0.2).toNat) z0.length A0 :: .cells q0 [vI a0.fN,v0_1] 34 :: .obj G0 (.deferred (some [])) :: (bm p0 ++ [])):=Tr.arr2 (St.arr2Of B1 (.one .hd (.one .t3 (.one .t3 (.one .t3 (.one .hd (.drop .hd (.drop .hd .rest))))))))
 have Q1:=Tt y3 (Tt z3 (Tt A3 (Tt B3 (Tt C3 D3))))
 exact I2 (F0 ||| (W0 &&& a1),W0 &&& a1,X0,z0,(G0 :: p0),j1,A0) _ _ _ ⟨rfl,rfl,rfl,rfl,rfl,rfl,trivial⟩ rfl ⟨Y2,(Tt u3 (Tt C1 (Tt D1 (Tt E1 Q1)))),(Az J1 Q1)⟩ h
 refine Ao<|Aj<|Ar<|Af<|Ac rfl<|AA rfl ((I0.memA .t2) 0 _ rfl)<|bk h fun b1 H4 h=>BA (vI b1) (bd 68) rfl (e1 rfl) (fun w9 hw9=>al_c n (I0.hL0 hL hw9) g0 (hG0.keep (I0.ag.trans hw9)) H4) rfl<|RG.yieldP (fd:=23) (vs:=[vI b1]) .plain rfl (e1 rfl) I0 .hd I4 rfl rfl rfl fun g5 H3 B5=>Ak<|Ae rfl<|Aa<|MX.begin I0 .hd fun c6 V0 F1=>Ar<|Ak<|AA rfl ((V0.memA .t4) 0 _ rfl)<|Ac rfl<|AA rfl ((V0.memA .t3) 0 _ rfl)<|bk h fun K4 z4 h=>?_
 obtain ⟨X3,A4⟩:=au z4
 have P1:=Az J1 F1
 obtain ⟨k2,Z4,v1,M1,F2,p4,y5⟩:=St.nth (α:=Int) V0 .t5 P1 A4
 obtain ⟨p2,b5,K1⟩:=St.nthOwn (α:=Int) V0 .t5 M1
 obtain rfl:k2 = ⟨p2,0,none⟩:=by rw [K1] at v1; cases v1; rfl
 have R3:F2 = [vI K4]:=p4; subst R3
 refine Ab (Bk 1 (b1.toNat) rfl v1 rfl X3 M1)<|bk h fun M4 C4 h=>RG.acts' .plain (Acts.set (α:=Int) (i:=b1.toNat) C4 V0 K1 (fun _=>.t5) P1 rfl rfl rfl rfl rfl rfl) fun d6 ⟨G2,Z2,E3,M3⟩=>Aa<|Ap<|MX.roundEnd H3 Z2 .hd fun g6 s1 G1=>Ab (FV.not rfl)<|Aa<|Bl rfl<|Ao<|Ap<|Ak<|AA rfl ((s1.memA .t2) 0 _ rfl)<|AA rfl ((s1.memA .t2) 0 _ rfl)<|Ab (FV.subU (a:=g0) (b:=(1:UInt64)) rfl rfl)<|Ab (FV.andU (a:=g0) (b:=g0 - (1:UInt64)) rfl rfl)<|AX [vW ((g0 &&& (g0 - (1:UInt64))).toNat:Int)] s1 .t2 (o1 rfl) fun j6 b3 H1=>Aa<|J2 (g0 &&& (g0 - (1:UInt64)),M4,G2) b3 (Tt E1 (Tt F1 (Tt E3 (Tt G1 H1)))) (Az M3 (Tt G1 H1)) h
 refine Af<|Ae rfl<|Ae rfl<|Aa<|Aq rfl ?_
 have q4:=Bo (α:=Int) d0 L
 refine Av hb0 func23 rfl (.cons (.tmp rfl) (.cons (.tmp rfl) .nil)) rfl ?_
 cases h
 exact ⟨d0.ag,fun w9 hw9=>⟨vN,rfl,d0.kd q4 hw9⟩⟩
 refine Af<|Ac rfl<|Ae rfl<|Ae rfl<|Aa<|Aq rfl ?_
 have s4:=Bo (α:=Int) d0 L
 refine Av hb0 func23 rfl (.cons (.tmp rfl) (.cons (.tmp rfl) .nil)) rfl ?_
 cases h
 exact ⟨d0.ag,fun w9 hw9=>⟨vN,rfl,d0.kd s4 hw9⟩⟩
structure Ta where
  fc:UInt64
  deriving DecidableEq
instance:Rep Ta:=Rep.via (β:=UInt64) fun x=>x.fc
structure Tstate where
  fChance:Ta
  deriving DecidableEq
instance:Rep Tstate:=Rep.via (β:=Ta) fun x=>x.fChance
structure Tsource where
  fstate:Tstate
  deriving DecidableEq
instance:Rep Tsource:=Rep.via (β:=Tstate) fun x=>x.fstate
def az_l1 (_n:Nat) (g0:UInt64) (a1:Int) (p0:Nat × UInt64 -> Option ((Int × Ta × Int) ⊕ Unit)):Nat × UInt64 -> Option ((Int × Ta × Int) ⊕ Unit)
  | (d0,b0)=>(if d0 < 200 then (some ((b0 + (11400714819323198485:UInt64)) ^^^ (shrU (b0 + (11400714819323198485:UInt64)) 30))).bind fun j0=>(some ((j0 * (13787848793156543929:UInt64)) ^^^ (shrU (j0 * (13787848793156543929:UInt64)) 27))).bind fun k0=>(some ((k0 * (10723151780598845931:UInt64)) ^^^ (shrU (k0 * (10723151780598845931:UInt64)) 31))).bind fun c0=>(if c0 <= ((-g0) - (1:UInt64)) then (cY c0 (ae a1)).bind fun q0=>some (.inl (ab q0,(⟨b0 + (11400714819323198485:UInt64)⟩:Ta),(0:Int))) else (if g0 = (0:UInt64) then (cY c0 (ae a1)).bind fun s0=>some (.inl (ab s0,(⟨b0 + (11400714819323198485:UInt64)⟩:Ta),(0:Int))) else p0 (d0 + 1,b0 + (11400714819323198485:UInt64)))) else some (.inr ()))
def az_p (n:Nat) (a0:Ta) (a1:Int):Option (Int × Ta × Int):=
  (if a1 < 1 then some ((0:Int),(⟨(0:UInt64)⟩:Ta),(2:Int)) else (cY (-(ae a1)) (ae a1)).bind fun b0=>thn (ac (az_l1 n b0 a1) n (0,a0.fc)) (fun _=>some ((0:Int),(⟨(0:UInt64)⟩:Ta),(9:Int))))
theorem az_c (n:Nat) {L w} (_hL:hl L w) (a0:Ta) {a1:Int}  {r:Int × Ta × Int} (h:az_p n a0 a1 = some r) :
 Cl 14 #[.agg #[vU a0.fc],vI a1] w (ah w fun _ u=>u = .tuple #[vI r.1,.agg #[vU r.2.1.fc],vI r.2.2]):=by
 unfold az_p at h
 refine AG func14 rfl rfl rfl fun _ cs0 hb0=>Af<|RG.bx (AF w) rfl rfl fun Y3 X0 u1 M2=>Ae rfl<|RG.nl [vW 0] u1 fun Z3 Y0 B0 Q2=>Ae rfl<|Aa<|Aj<|Af<|Ac rfl<|Ab (FV.lss (i:=a1) (j:=1) rfl rfl)<|Aa<|AN rfl h (fun k1 h=>?_) (fun k1 h=>?_)
 refine Af<|Ab (AL (vs:=[]) (u:=.agg #[vW 0]) aj (fun w9=>by kernel_rfl))<|Ae rfl<|AX [vW 0] B0 .hd (o1 rfl) fun j4 M0 c3=>Ae rfl<|Aa<|Aq rfl<|Av hb0 func14 rfl (.cons (.tmp rfl) (.cons (.many (cs:=[vW 0]) rfl rfl (M0.memA .hd)) (.cons (.tmp rfl) .nil))) rfl ?_
 cases h
 exact M0.gv
 refine Ao<|Af<|Ab (AK rfl (B0.memA .t1))<|RG.enterP (fst:=[]) (cap:=[]) (vs:=[.agg #[vU a0.fc]]) .plain (bd 38) func38 rfl rfl rfl rfl (e1 rfl) rfl fun H2 p2 R3=>Af<|RG.bx B0 rfl rfl fun H4 E2 U0 D3=>Ae rfl<|Aa<|Af<|Ab (AK rfl (U0.memA .hd))<|Ab (AL (vs:=[.agg #[vU a0.fc]]) (u:=.agg #[vU a0.fc]) (e1 rfl) (fun w9=>by kernel_rfl))<|Ab (AL (vs:=[.agg #[vU a0.fc]]) (u:=.agg #[vU a0.fc]) (e1 rfl) (fun w9=>by kernel_rfl))<|RG.bx U0 rfl rfl fun I4 p0 U1 E3=>Ae rfl<|Aa<|Aq rfl<|Av (u:=vP p0) p2 func38 rfl (.cons (.tmp rfl) .nil) rfl<|Ae rfl<|Aa<|Af<|Ac rfl<|Ac rfl<|Ab (FV.convU (i:=a1) underlying3 underlying26 rfl)<|RG.enterP (fst:=[]) (cap:=[]) (vs:=[vP p0,vW ((ae a1).toNat:Int)]) .plain (bd 39) func39 rfl rfl rfl rfl (e2 rfl rfl) rfl fun I2 G0 U3=>Af<|RG.bx U1 rfl rfl fun J4 Z0 V1 F3=>RG.nl [vW 0] V1 fun K4 b1 W1 G3=>RG.nl [vI 0] W1 fun M4 c1 E0 H3=>Aa<|Af<|Ac rfl<|Ab (Bx rfl)<|AT 0 rfl<|Ab (FV.makeFunc (vs:=[.pointer (some (Addr.add ⟨p0,0,none⟩ 0))]) (us:=[]) (e1 rfl) aj) ?_
 refine Ae rfl<|Aa<|Af<|AA rfl ((E0.memA .t2) 0 _ rfl)<|Ab (FV.negU (a:=ae a1) rfl)<|AA rfl ((E0.memA .t2) 0 _ rfl)<|bk h fun s0 x2 h=>Ab (FV.remV (a:=-(ae a1)) (b:=ae a1) rfl rfl x2)<|RG.nl [vW 0] E0 fun P4 g1 X1 I3=>AX [vU s0] X1 .hd (o1 rfl) fun Q4 Y1 J3=>Aa<|Aj<|Af<|Ac rfl<|RG.enterP (fst:=[]) (cap:=[]) (vs:=[.func (.func 63) #[.pointer (some (Addr.add ⟨p0,0,none⟩ 0))] #[]]) .plain (bd 64) func64 rfl rfl rfl rfl (e1 rfl) rfl fun J2 q2 V3=>Af<|RG.bx Y1 rfl rfl fun R4 t0 Z1 K3=>Ae rfl<|Aa<|Af<|Ab (FV.makeFunc (vs:=[]) (us:=[vP t0]) aj (e1 rfl))<|Ae rfl<|Aa<|Aq rfl<|Av (u:=.func (.func 90) #[] #[vP t0]) q2 func64 rfl (.cons (.tmp rfl) .nil) rfl<|Aa<|Ar<|MX.rangeP (lb:=[vP t0]) rfl Z1 rfl (bd 90) func90 rfl rfl rfl fun U4 V0 W0 B2 K2 b2 M3 C2 H0 W3=>Af<|Ac rfl<|Aa<|Ar ?_
 obtain ⟨v1,P2⟩:=AH b2 (.a0 (.a0 (.a0 (.a0 (.a0 (.a0 (.a0 (.a0 .d1))))))))
 refine tn h fun X3 s2 I0=>MX.lo (α:=Nat × UInt64) (fun ⟨g0,b0⟩=>[(0,.func (.yield V0) #[] #[]),(1,vP t0),(3,vI ((g0:Nat):Int))]) (fun ⟨g0,b0⟩=>[.obj V0 (lpO B2 .ready none),.obj W0 (.deferred (some [])),.cells t0 [.func (.func 63) #[.pointer (some (Addr.add ⟨p0,0,none⟩ 0))] #[]] 109,.cells g1 [vU s0] 26,.cells c1 [vI 0] 42,.cells b1 [vW 0] 26,.cells Z0 [vW ((ae a1).toNat:Int)] 26,.cells p0 [vU b0] 90,.cells Y0 [vW 0] 30,.cells X0 [vU a0.fc] 30]) (fun ⟨g0,b0⟩=>(g0,b0)) (0,a0.fc) s2 v1 ?_
 rintro D2 ⟨g0,b0⟩ V4 s1 v0 c2 h
 unfold az_l1 at h
 try dsimp only at h
 refine Af<|Ab (Bq (i:=g0) (j:=200) rfl rfl)<|Aa<|Aj<|AN rfl h (fun j1 h=>?_) (fun j1 h=>?_)
 refine Ao<|Aj<|Ar<|Af<|Ac rfl<|AA rfl ((v0.memA .t2) 0 _ rfl)<|RG.enterP (fst:=[.pointer (some (Addr.add ⟨p0,0,none⟩ 0))]) (cap:=[]) (vs:=[]) .plain (bd 63) func63 rfl rfl rfl rfl aj rfl fun F2 k2 P3=>Af<|Ae rfl<|Aa<|Af<|Ac rfl<|Ab (Bx rfl)<|AT 0 rfl<|AT 0 rfl<|AA rfl ((aM (aM (v0.memA .t7) 0) 0) 0 _ rfl)<|Ab (FV.addU (a:=b0) (b:=(11400714819323198485:UInt64)) rfl rfl)<|Ab (Bx rfl)<|AT 0 rfl<|AT 0 rfl<|RG.now .plain (Acts.store (j:=0) (old:=[vU b0]) (news:=[vW ((b0 + (11400714819323198485:UInt64)).toNat:Int)]) (new' :=[vW ((b0 + (11400714819323198485:UInt64)).toNat:Int)]) v0 .t7 rfl rfl rfl rfl rfl rfl (o1 rfl) rfl) fun b4 C0 d2=>Aa<|Af<|Ac rfl<|Ab (Bx rfl)<|AT 0 rfl<|AT 0 rfl<|AA rfl ((aM (aM (C0.memA .t7) 0) 0) 0 _ rfl)<|Ae rfl<|Aa<|Af<|Ac rfl<|Ac rfl<|Ab (FV.shrU (a:=b0 + (11400714819323198485:UInt64)) (j:=30) rfl rfl)<|bk h fun z0 y2 h=>Ab (FV.as (FV.xorU (a:=b0 + (11400714819323198485:UInt64)) (b:=shrU (b0 + (11400714819323198485:UInt64)) 30) rfl rfl) (congrArg (fun z:UInt64=>Value.int .u64 (z.toNat:Int)) (Option.some.inj y2)))<|Ab (FV.mulU (a:=z0) (b:=(13787848793156543929:UInt64)) rfl rfl)<|Ae rfl<|Aa<|Af<|Ac rfl<|Ac rfl<|Ab (FV.shrU (a:=z0 * (13787848793156543929:UInt64)) (j:=27) rfl rfl)<|bk h fun A0 z2 h=>Ab (FV.as (FV.xorU (a:=z0 * (13787848793156543929:UInt64)) (b:=shrU (z0 * (13787848793156543929:UInt64)) 27) rfl rfl) (congrArg (fun z:UInt64=>Value.int .u64 (z.toNat:Int)) (Option.some.inj z2)))<|Ab (FV.mulU (a:=A0) (b:=(10723151780598845931:UInt64)) rfl rfl)<|Ae rfl<|Aa<|Af<|Ac rfl<|Ac rfl ?_
 refine Ab (FV.shrU (a:=A0 * (10723151780598845931:UInt64)) (j:=31) rfl rfl)<|bk h fun u0 A2 h=>Ab (FV.as (FV.xorU (a:=A0 * (10723151780598845931:UInt64)) (b:=shrU (A0 * (10723151780598845931:UInt64)) 31) rfl rfl) (congrArg (fun z:UInt64=>Value.int .u64 (z.toNat:Int)) (Option.some.inj A2)))<|Ae rfl<|Aa<|Aq rfl<|Av (u:=vU u0) k2 func63 rfl (.cons (.tmp rfl) .nil) rfl<|RG.yieldP (fd:=39) (vs:=[vU u0]) .plain rfl (e1 rfl) C0 .hd C2 rfl rfl rfl fun G2 F0 Q3=>Ak<|Ae rfl<|Aa<|MX.begin C0 .hd fun c4 q0 g2=>Ar<|Af<|Ac rfl<|AA rfl ((q0.memA .t3) 0 _ rfl)<|Ab (FV.negU (a:=s0) rfl)<|Ab (FV.subU (a:=-s0) (b:=(1:UInt64)) rfl rfl)<|Ab (FV.leqU (a:=u0) (b:=(-s0) - (1:UInt64)) rfl rfl)<|Ac rfl<|Bn (s:=25) rfl h (fun p1 h=>?_) (fun p1 h=>?_)
 refine Ah<|Ah<|Bd rfl rfl<|Aa<|AS rfl<|Af<|Ac rfl<|AA rfl ((q0.memA .t6) 0 _ rfl)<|bk h fun J0 u2 h=>Ab (FV.remV (a:=u0) (b:=ae a1) rfl rfl u2)<|AX [vU J0] q0 .t5 (o1 rfl) fun d4 x1 R2=>AX [vI 0] x1 .t4 (o1 rfl) fun g4 y1 U2=>Aa<|MX.roundRet F0 y1 .hd fun k4 z1 V2=>Ab (FV.not rfl)<|Aa<|AS rfl ?_
 have h:=ao h I0
 refine Aq rfl<|Av (u:=.tuple #[]) H0 func90 rfl .nil rfl<|MX.endRange1 z1 .hd (by intro h9; cases h9) fun p4 A1 W2=>?_
 obtain ⟨B1,X2⟩:=AH A1 .d1
 refine Aq rfl<|RT.take B1 .hd fun q4 C1 Y2=>?_
 obtain ⟨x0,Z2⟩:=AH C1 .d1
 refine Av (u:=.tuple #[vU J0,vI 0]) G0 func39 rfl (.cons (.one rfl rfl ((x0.memA .t3) 0 _ rfl)) (.cons (.one rfl rfl ((x0.memA .t2) 0 _ rfl)) .nil)) rfl<|Ac rfl<|Ab (Am rfl rfl)<|Ab (Am rfl rfl)<|Ae rfl<|Ae rfl<|Aa<|Aj<|Af<|Ac rfl<|Ab (FV.neqN (i:=0) (j:=0) rfl rfl)<|Aa<|Bl rfl<|Ao<|Aj<|du 8 fun c0 j0=>Rv 0 c0 rfl j0 (fun _=>Ag rfl)<|Rv 1 c0 rfl j0 (fun _=>FV.convUI (a:=J0) underlying26 underlying3 rfl)<|Rv 2 c0 rfl j0 (fun _=>Ag rfl)<|Rv 3 c0 rfl j0 (fun _=>Bx rfl)<|Rv 4 c0 rfl j0 (fun _=>BB 0 rfl)<|Rv 5 c0 rfl j0 (fun _=>BB 0 rfl)<|Rx 6 768 c0 rfl j0 (AK rfl (aM (aM (x0.memA .t5) 0) 0))<|Rv 7 c0 rfl j0 (fun _=>Ba rfl)<|RD.nw 8 511 c0 rfl rfl .plain (AP (news:=[vW ((b0 + (11400714819323198485:UInt64)).toNat:Int)]) x0 .t6 rfl rfl rfl rfl rfl (.refl 1) (o1 rfl)) fun s4 P0 b3=>RD.one (i:=9) (rk c0) (RO.val (m' :=1023) (sk c0) rfl .plain rfl (Ba rfl) ?_)
 refine AZ (dk c0)<|Aq rfl<|Av hb0 func14 rfl (.cons (.tmp rfl) (.cons (.many (cs:=[vW ((b0 + (11400714819323198485:UInt64)).toNat:Int)]) rfl rfl (P0.memA .t6)) (.cons (.tmp rfl) .nil))) rfl ?_
 cases h
 exact P0.gv
 refine Al (AM rfl ((q0.memA .t3) 0 _ rfl))<|Al (FV.eqlU (a:=s0) (b:=(0:UInt64)) rfl rfl)<|Bb rfl rfl<|Aa<|AN rfl h (fun q1 h=>?_) (fun q1 h=>?_)
 refine Af<|Ac rfl<|AA rfl ((q0.memA .t6) 0 _ rfl)<|bk h fun K0 v2 h=>Ab (FV.remV (a:=u0) (b:=ae a1) rfl rfl v2)<|AX [vU K0] q0 .t5 (o1 rfl) fun u4 D1 d3=>AX [vI 0] D1 .t4 (o1 rfl) fun v4 E1 g3=>Aa<|MX.roundRet F0 E1 .hd fun x4 F1 j3=>Ab (FV.not rfl)<|Aa<|AS rfl ?_
 have h:=ao h I0
 refine Aq rfl<|Av (u:=.tuple #[]) H0 func90 rfl .nil rfl<|MX.endRange1 F1 .hd (by intro h9; cases h9) fun y4 G1 k3=>?_
 obtain ⟨H1,p3⟩:=AH G1 .d1
 refine Aq rfl<|RT.take H1 .hd fun z4 I1 q3=>?_
 obtain ⟨y0,s3⟩:=AH I1 .d1
 refine Av (u:=.tuple #[vU K0,vI 0]) G0 func39 rfl (.cons (.one rfl rfl ((y0.memA .t3) 0 _ rfl)) (.cons (.one rfl rfl ((y0.memA .t2) 0 _ rfl)) .nil)) rfl<|Ac rfl<|Ab (Am rfl rfl)<|Ab (Am rfl rfl)<|Ae rfl<|Ae rfl<|Aa<|Aj<|Af<|Ac rfl<|Ab (FV.neqN (i:=0) (j:=0) rfl rfl)<|Aa<|Bl rfl<|Ao<|Aj<|du 8 fun d0 k0=>Rv 0 d0 rfl k0 (fun _=>Ag rfl)<|Rv 1 d0 rfl k0 (fun _=>FV.convUI (a:=K0) underlying26 underlying3 rfl)<|Rv 2 d0 rfl k0 (fun _=>Ag rfl)<|Rv 3 d0 rfl k0 (fun _=>Bx rfl)<|Rv 4 d0 rfl k0 (fun _=>BB 0 rfl)<|Rv 5 d0 rfl k0 (fun _=>BB 0 rfl)<|Rx 6 768 d0 rfl k0 (AK rfl (aM (aM (y0.memA .t5) 0) 0))<|Rv 7 d0 rfl k0 (fun _=>Ba rfl)<|RD.nw 8 511 d0 rfl rfl .plain (AP (news:=[vW ((b0 + (11400714819323198485:UInt64)).toNat:Int)]) y0 .t6 rfl rfl rfl rfl rfl (.refl 1) (o1 rfl)) fun A4 Q0 u3=>RD.one (i:=9) (rk d0) (RO.val (m' :=1023) (sk d0) rfl .plain rfl (Ba rfl) ?_)
 refine AZ (dk d0)<|Aq rfl<|Av hb0 func14 rfl (.cons (.tmp rfl) (.cons (.many (cs:=[vW ((b0 + (11400714819323198485:UInt64)).toNat:Int)]) rfl rfl (Q0.memA .t6)) (.cons (.tmp rfl) .nil))) rfl ?_
 cases h
 exact Q0.gv
 refine Ao<|Ap<|MX.roundEnd F0 q0 .hd fun B4 J1 j2=>Ab (FV.not rfl)<|Aa<|Bl rfl<|Ao<|Ap<|Ak<|Ab (AW (i:=g0) (j:=1) rfl rfl (by omega))<|Ac rfl<|Aa<|s1 (g0 + 1,b0 + (11400714819323198485:UInt64)) J1 (Tt c2 (Tt d2 (Tt g2 j2))) h
 refine AV rfl ?_
 have h:=aI h I0
 try dsimp only at h
 refine MX.fin rfl<|Av (u:=.tuple #[]) H0 func90 rfl .nil rfl<|MX.endRange0 v0 .hd (by intro h9; cases h9) fun C4 K1 v3=>?_
 obtain ⟨M1,x3⟩:=AH K1 .d1
 refine Ap<|Af<|AX [vW 0] M1 .t4 (o1 rfl) fun D4 P1 y3=>AX [vI 9] P1 .t3 (o1 rfl) fun E4 Q1 z3=>Aa<|Aq rfl<|RT.take Q1 .hd fun F4 R1 A3=>?_
 obtain ⟨D0,B3⟩:=AH R1 .d1
 refine Av (u:=.tuple #[vW 0,vI 9]) G0 func39 rfl (.cons (.one rfl rfl ((D0.memA .t3) 0 _ rfl)) (.cons (.one rfl rfl ((D0.memA .t2) 0 _ rfl)) .nil)) rfl<|Ac rfl<|Ab (Am rfl rfl)<|Ab (Am rfl rfl)<|Ae rfl<|Ae rfl<|Aa<|Aj<|Af<|Ac rfl<|Ab (FV.neqN (i:=9) (j:=0) rfl rfl)<|Aa<|AS rfl<|Af<|Ab (AL (vs:=[]) (u:=.agg #[vW 0]) aj (fun w9=>by kernel_rfl))<|Ac rfl<|Ae rfl<|AX [vW 0] D0 .t6 (o1 rfl) fun G4 R0 C3=>Ae rfl<|Aa<|Aq rfl<|Av hb0 func14 rfl (.cons (.tmp rfl) (.cons (.many (cs:=[vW 0]) rfl rfl (R0.memA .t6)) (.cons (.tmp rfl) .nil))) rfl ?_
 cases h
 exact R0.gv
structure Twalker where
  fChance:Ta
  fgraph:Tb
  fset:UInt64
  fleft:Int
  deriving DecidableEq
instance:Rep Twalker:=Rep.via (β:=Ta × Tb × UInt64 × Int) fun x=>(x.fChance,x.fgraph,x.fset,x.fleft)
def ah_l1 (n:Nat) (d0:UInt64 × (List Int) -> Option (List Int)):UInt64 × (List Int) -> Option (List Int)
  | (b0,c0)=>(if b0 = (0:UInt64) then some c0 else (al_p n b0).bind fun j0=>(app c0 ([j0]:List Int)).bind fun g0=>d0 (b0 &&& (b0 - (1:UInt64)),g0))
def ah_l2 (_n:Nat) (a0:Tb) (g0:Int) (j0:UInt64 × Nat -> Option UInt64):UInt64 × Nat -> Option UInt64
  | (d0,c0)=>(if c0 < a0.fh.length then (a0.fh[c0]?).bind fun b0=>(if b0.1 = g0 then (chk (b0.1 + b0.2)).bind fun s0=>(chk (s0 - g0)).bind fun t0=>(aL t0).bind fun p0=>j0 (d0 ||| (shlU (1:UInt64) p0),c0 + 1) else jn (fun x0=>j0 (x0,c0 + 1)) (fun k0=>(if b0.2 = g0 then (chk (b0.1 + b0.2)).bind fun u0=>(chk (u0 - g0)).bind fun v0=>(aL v0).bind fun q0=>k0 (d0 ||| (shlU (1:UInt64) q0)) else k0 d0))) else some d0)
def ah_l3 (n:Nat) (a3:UInt64) (a0:Tb) (a1:UInt64) (q0:Int × (List Int) × UInt64 × Int -> Option (((List Int) × Ta × Int) ⊕ ((List Int) × UInt64))):Int × (List Int) × UInt64 × Int -> Option (((List Int) × Ta × Int) ⊕ ((List Int) × UInt64))
  | (k0,j0,c0,p0)=>(aL k0).bind fun s0=>(if ((shrU a3 s0) &&& (1:UInt64)) = (1:UInt64) then some (.inr (j0,c0)) else (if p0 = 0 then some (.inl (([]:List Int),(⟨(0:UInt64)⟩:Ta),(9:Int))) else (chk (p0 - 1)).bind fun t0=>Option.bind (ac (ah_l2 n a0 k0) n (0,0)) (fun u0=>Option.bind (ac (ah_l1 n) n (u0 &&& a1,([]:List Int))) (fun g0=>(az_p n (⟨c0⟩:Ta) ((g0.length:Nat):Int)).bind fun b0=>(if b0.2.2 = 0 then (idx g0 b0.1).bind fun d0=>(app j0 ([d0]:List Int)).bind fun v0=>q0 (d0,v0,b0.2.1.fc,t0) else some (.inl (([]:List Int),(⟨(0:UInt64)⟩:Ta),b0.2.2)))))))
def ah_l4 (_n:Nat) (g0:(List Int) × Int) (a3:UInt64) (c0:Bool × Nat -> Option Bool):Bool × Nat -> Option Bool
  | (d0,b0)=>(if b0 < g0.1.length then (g0.1[b0]?).bind fun j0=>(if d0 = true then c0 (true,b0 + 1) else (if 0 <= j0 then c0 ((decide (((shrU a3 b0) &&& (1:UInt64)) = (1:UInt64))),b0 + 1) else c0 (false,b0 + 1))) else some d0)
def ah_p (n:Nat) (a0:Tb) (a1:UInt64) (a2:Int) (a3:UInt64) (a4:Ta):Option ((List Int) × Ta × Int):=
  (aS_p n a0).bind fun c0=>(if c0 = 0 then jn (fun g0=>(if g0 = true then some (([]:List Int),(⟨(0:UInt64)⟩:Ta),(2:Int)) else (aK_p n a0 a1 a2).bind fun t0=>Option.bind (ac (ah_l4 n t0 a3) n (false,0)) (fun j0=>(if j0 = true then thn (ac (ah_l3 n a3 a0 a1) n (a2,([a2]:List Int),a4.fc,10000)) (fun (p0,k0)=>some (p0,(⟨k0⟩:Ta),(0:Int))) else some (([]:List Int),(⟨(0:UInt64)⟩:Ta),(4:Int)))))) (fun b0=>(bo_p n a0 a1).bind fun q0=>(if q0 = true then (bo_p n a0 a3).bind fun s0=>(if s0 = true then (if a2 < 0 then b0 true else (if a0.fN <= a2 then b0 true else (aL a2).bind fun d0=>b0 (decide (((shrU a1 d0) &&& (1:UInt64)) = (0:UInt64))))) else b0 true) else b0 true)) else some (([]:List Int),(⟨(0:UInt64)⟩:Ta),c0))
theorem ah_c (n:Nat) {L w} (hL:hl L w) (a0:Tb) {v0_1:Value} (h0_1:Rep.R w L [v0_1] a0.fh) (a1:UInt64) {a2:Int} (a3:UInt64) (a4:Ta) (hG0:Glob 0 tab0 w)  {r:(List Int) × Ta × Int} (h:ah_p n a0 a1 a2 a3 a4 = some r) :
 Cl 8 #[.agg #[vI a0.fN,v0_1],vU a1,vI a2,vU a3,.agg #[vU a4.fc]] w (ah w fun w' u=>∃ v0_0:Value,u = .tuple #[v0_0,.agg #[vU r.2.1.fc],vI r.2.2]/\Rep.R w' L [v0_0] r.1):=by
 unfold ah_p at h
 refine AG func8 rfl rfl rfl fun _ cs0 hb0=>Af<|RG.bx (AF w) rfl rfl fun G8 C0 X3 P7=>RG.bx X3 rfl rfl fun X8 D0 Y3 Q7=>Ae rfl<|RG.nl [vW 0] Y3 fun Y8 E0 d0 R7=>Ae rfl<|Aa<|Aj<|Af<|Ab (AK rfl (d0.memA .t2))<|bk h fun X2 A6 h=>BA (vI X2) (bd 21) rfl (e1 rfl) (fun w9 hw9=>aS_c n (d0.hL0 hL hw9) a0 (d0.k0 h0_1 hw9) A6) rfl<|Ae rfl<|Aa<|Af<|Ac rfl<|Ab (FV.neq (i:=X2) (j:=0) rfl rfl)<|Aa<|MX.ifn rfl h (fun p3 h=>?_) (fun p3 h=>?_)
 refine Ao<|Aj<|Aj<|MX.jo (α:=Bool) (fun j1=>[(1,vU a1),(2,vI a2),(3,vU a3),(5,vP C0),(9,vP D0),(11,vP E0),(52,.bool j1)]) (fun j1=>[.cells E0 [vW 0] 30,.cells D0 [vU a4.fc] 30,.cells C0 [vI a0.fN,v0_1] 34]) (fun j1=>j1) d0 h ?_ ?_
 rintro j1 u9 U0 U7 h
 try dsimp only at h
 refine MX.ifb rfl h (fun q3 h=>?_) (fun q3 h=>?_)
 refine Af<|Ab (AL (vs:=[]) (u:=.agg #[vW 0]) aj (fun w9=>by kernel_rfl))<|Ae rfl<|AX [vW 0] U0 .hd (o1 rfl) fun Z8 y1 V7=>Ae rfl<|Aa<|Aq rfl ?_
 have Q5:=Bo (α:=Int) y1 L
 refine Av hb0 func8 rfl (.cons (.tmp rfl) (.cons (.many (cs:=[vW 0]) rfl rfl (y1.memA .hd)) (.cons (.tmp rfl) .nil))) rfl ?_
 cases h
 exact ⟨y1.ag,fun w9 hw9=>⟨vN,rfl,y1.kd Q5 hw9⟩⟩
 refine Ao<|Af<|Ab (AK rfl (U0.memA .t2))<|Ac rfl<|Ac rfl<|bk h fun F1 B6 h=>jE (bd 23) rfl (e3 rfl rfl rfl) (fun w9 hw9=>aK_c n (U0.hL hL hw9) a0 (U0.km h0_1 hw9) a1 (hG0.keep (U0.ag.trans hw9)) B6) rfl fun b9 z8 M4 ⟨I6,hu_,U1⟩=>?_
 subst hu_
 obtain ⟨Z3,W7⟩:=U0.agr M4
 refine Ac rfl<|Ab (Am rfl rfl)<|Ab (Am rfl rfl)<|Ae rfl<|Ae rfl<|Aa<|Af<|Ae rfl<|Aa<|Aj<|Af<|Ac rfl ?_
 have b8:F1.1.length <= 281474976710656:=AY U1
 refine Ab (Bh (xs:=F1.1) underlying41 rfl U1)<|Ac rfl<|Aa<|Ar ?_
 obtain ⟨v8,G5,q5⟩:=ai h
 refine MX.lo (α:=Bool × Nat) (fun ⟨k1,g0⟩=>[(1,vU a1),(2,vI a2),(3,vU a3),(5,vP C0),(9,vP D0),(11,vP E0),(16,.bool k1),(61,I6),(62,vI ((F1.1.length:Nat):Int)),(63,vI ((g0:Nat):Int))]) (fun ⟨k1,g0⟩=>[.cells E0 [vW 0] 30,.cells D0 [vU a4.fc] 30,.cells C0 [vI a0.fN,v0_1] 34]) (fun ⟨k1,g0⟩=>(k1,g0)) (false,0) G5 Z3 ?_
 rintro Z6 ⟨k1,g0⟩ v9 H1 M0 C1 h
 unfold ah_l4 at h
 try dsimp only at h
 refine Af<|Ab (Bq (i:=g0) (j:=F1.1.length) rfl rfl)<|Aa<|Aj<|AN rfl h (fun v3 h=>?_) (fun v3 h=>?_)
 refine Ao<|Aj<|Ar<|Af<|Ac rfl<|bk h fun W2 p6 h=>?_
 obtain ⟨R6,u7,g5,y5,G3,V5,D5⟩:=Bm (Aw U1 C1) p6
 have j5:G3 = [vI W2]:=V5; subst j5
 refine Ab (Bk 1 g0 rfl g5 rfl rfl y5)<|AA rfl (D5 0 _ rfl)<|Ae rfl<|Ae rfl<|Aa<|Ak<|Ac rfl<|Ac rfl<|RG.ifb (s:=69) rfl h (fun y3 h=>?_) (fun y3 h=>?_)
 refine Ah<|Ah<|Ah<|Bg<|Bg<|Bg<|Bg<|Bg<|Ah<|Bd rfl rfl<|Ae rfl<|Aa<|Ap<|Ak<|Ab (AW (i:=g0) (j:=1) rfl rfl (by omega))<|Ac rfl<|Aa<|H1 (true,g0 + 1) M0 C1 h
 refine Al (Ag rfl)<|Al (FV.geq (i:=W2) (j:=0) rfl rfl)<|Al (Ag rfl)<|Bn (s:=72) rfl h (fun A3 h=>?_) (fun A3 h=>?_)
 refine Al (Ag rfl)<|Al (Ag rfl)<|Al (FV.shrU (a:=a3) (j:=g0) rfl rfl)<|Al (FV.andU (a:=shrU a3 g0) (b:=(1:UInt64)) rfl rfl)<|Al (FV.eqlU (a:=(shrU a3 g0) &&& (1:UInt64)) (b:=(1:UInt64)) rfl rfl)<|Al (Bj rfl rfl)<|Bb rfl rfl<|Ae rfl<|Aa<|Ap<|Ak<|Ab (AW (i:=g0) (j:=1) rfl rfl (by omega))<|Ac rfl<|Aa<|H1 ((decide (((shrU a3 g0) &&& (1:UInt64)) = (1:UInt64))),g0 + 1) M0 C1 h
 refine Ah<|Ah<|Ah<|Ah<|Ah<|Al (AD rfl rfl)<|Bb rfl rfl<|Ae rfl<|Aa<|Ap<|Ak<|Ab (AW (i:=g0) (j:=1) rfl rfl (by omega))<|Ac rfl<|Aa<|H1 (false,g0 + 1) M0 C1 h
 refine AV rfl ?_
 have h:=q5 _ h
 try dsimp only at h
 refine Aj<|Af<|Ac rfl<|Ab (FV.not rfl)<|Aa<|MX.ifnb rfl h (fun B3 h=>?_) (fun B3 h=>?_)
 refine Ao<|Af<|Ab (AK rfl (M0.memA .t1))<|Ab (AK rfl (M0.memA .t2))<|Ac rfl ?_
 obtain ⟨V6,x7,g6,_⟩:=Rep.sl (Be h0_1 M0)
 refine Ab (AL (vs:=[.agg #[vU a4.fc],.agg #[vI a0.fN,v0_1],vU a1,vI 10000]) (u:=.agg #[vU a4.fc,vI a0.fN,v0_1,vU a1,vI 10000]) (e4 rfl rfl rfl rfl) (fun w9=>by rw [g6]; try kernel_rfl))<|RG.bx M0 rfl rfl fun A8 c0 J3 H7=>Ae rfl<|Aa<|Aj<|Af<|Ac rfl<|Ac rfl<|Ac rfl<|RG.enterP (fst:=[]) (cap:=[]) (vs:=[vP c0,vI a2,vU a3]) .plain (bd 24) func24 rfl rfl rfl rfl (e3 rfl rfl rfl) rfl fun y7 P1 g8=>Af<|Ae rfl<|Ae rfl<|Aa<|MX.scope<|Af<|Ac rfl<|Au .plain rfl (jA a2 (vI a2) J3 aq (e1 rfl)) fun H8 b3 b2 I7=>Ae rfl<|Aa<|Af<|Ac rfl<|Ab (FV.makeFunc (vs:=[vP c0]) (us:=[]) (e1 rfl) aj)<|Ae rfl<|Aa<|Aj<|MX.label<|Aj<|Af<|Ac rfl<|Ae rfl<|Aa<|Ar<|tn h fun x8 H5 R1=>MX.lf (α:=Int × (List Int) × UInt64 × Int × Value × (List Value)) (fun ⟨j0,u0,b0,I0,s0,A0⟩=>[(0,vP c0),(2,vU a3),(8,s0),(9,.func (.func 52) #[vP c0] #[]),(10,vI j0)]) (fun ⟨j0,u0,b0,I0,s0,A0⟩=>[rr w 3 Int s0 u0.length A0,.cells c0 [vU b0,vI a0.fN,v0_1,vU a1,vI I0] 69,.cells E0 [vW 0] 30,.cells D0 [vU a4.fc] 30,.cells C0 [vI a0.fN,v0_1] 34]) (fun ⟨j0,u0,b0,I0,s0,A0⟩ V2=>Cells V2 (bl [rr w 3 Int s0 u0.length A0,.cells c0 [vU b0,vI a0.fN,v0_1,vU a1,vI I0] 69,.cells E0 [vW 0] 30,.cells D0 [vU a4.fc] 30,.cells C0 [vI a0.fN,v0_1] 34] ++ L) A0 u0) (fun ⟨j0,u0,b0,I0,s0,A0⟩=>(j0,u0,b0,I0)) (a2,([a2]:List Int),a4.fc,10000,(vS b3 1),[vI a2]) H5 b2 (jC a2 (vI a2) b2 L rfl) ?_
 rintro Y6 ⟨j0,u0,b0,I0,s0,A0⟩ V2 I3 V0 A4 G2 h
 unfold ah_l3 at h
 try dsimp only at h
 refine Ar<|Aj<|Af<|Ac rfl<|Ac rfl<|bk h fun M2 x5 h=>Ab (FV.shrI (a:=a3) (i:=j0) rfl rfl x5)<|Ab (FV.andU (a:=shrU a3 M2) (b:=(1:UInt64)) rfl rfl)<|Ab (FV.eqlU (a:=(shrU a3 M2) &&& (1:UInt64)) (b:=(1:UInt64)) rfl rfl)<|Aa<|AN rfl h (fun s3 h=>?_) (fun s3 h=>?_)
 refine AV rfl ?_
 have h:=aI h R1
 try dsimp only at h
 refine Af<|Ac rfl<|Ae rfl<|Ae rfl<|Aa<|Aq rfl<|Av (u:=.tuple #[s0,vI 0]) P1 func24 rfl (.cons (.tmp rfl) (.cons (.tmp rfl) .nil)) rfl<|Ac rfl<|Ab (Am rfl rfl)<|Ab (Am rfl rfl)<|Ae rfl<|Ae rfl<|Aa<|Af<|Ac rfl<|Ab (FV.neqN (i:=0) (j:=0) rfl rfl)<|Aa<|Bl rfl<|Ao<|Aj<|du 6 fun F0 W0=>Rv 0 F0 rfl W0 (fun _=>Ag rfl)<|Rv 1 F0 rfl W0 (fun _=>Ag rfl)<|Rv 2 F0 rfl W0 (fun _=>Bx rfl)<|Rv 3 F0 rfl W0 (fun _=>BB 0 rfl)<|Rx 4 192 F0 rfl W0 (FV.loadN (cs:=[vU b0]) rfl rfl (aA (V0.memA .t1) 0 1))<|Rv 5 F0 rfl W0 (fun _=>Ba rfl)<|RD.nw 6 127 F0 rfl rfl .plain (AP (news:=[vU b0]) V0 .t2 rfl rfl rfl rfl rfl rfl (o1 rfl)) fun c9 M1 B4=>RD.one (i:=7) (rk F0) (RO.val (m' :=255) (sk F0) rfl .plain rfl (Ba rfl) ?_)
 refine AZ (dk F0)<|Aq rfl ?_
 have z1:=Bt M1 .hd
 have X7:=Bu M1 .hd
 have R5:=Bv (α:=Int) (v:=s0) (xs:=u0) z1 L (Bf (α:=Int) M1 .hd (Az G2 B4) hL)
 refine Av hb0 func8 rfl (.cons (.tmp rfl) (.cons (.many (cs:=[vU b0]) rfl rfl (z1.memA .t1)) (.cons (.tmp rfl) .nil))) rfl ?_
 cases h
 exact ⟨z1.ag,fun w9 hw9=>⟨s0,rfl,z1.kd R5 hw9⟩⟩
 refine Ao<|Aj<|Af<|Ac rfl<|Ab (Bx rfl)<|AT 4 rfl<|AA rfl ((V0.memA .t1) 4 _ rfl)<|Ab (Br (i:=I0) (j:=0) rfl rfl)<|Aa<|AN rfl h (fun u3 h=>?_) (fun u3 h=>?_)
 refine Af<|Ae rfl<|Ae rfl<|Aa ?_
 have h:=ao h R1
 refine Aq rfl<|Av (u:=.tuple #[vN,vI 9]) P1 func24 rfl (.cons (.tmp rfl) (.cons (.tmp rfl) .nil)) rfl<|Ac rfl<|Ab (Am rfl rfl)<|Ab (Am rfl rfl)<|Ae rfl<|Ae rfl<|Aa<|Af<|Ac rfl<|Ab (FV.neqN (i:=9) (j:=0) rfl rfl)<|Aa<|AS rfl<|Af<|Ab (AL (vs:=[]) (u:=.agg #[vW 0]) aj (fun w9=>by kernel_rfl))<|Ac rfl<|Ae rfl<|AX [vW 0] V0 .t2 (o1 rfl) fun d9 A1 Y7=>Ae rfl<|Aa<|Aq rfl ?_
 have U5:=Bo (α:=Int) A1 L
 refine Av hb0 func8 rfl (.cons (.tmp rfl) (.cons (.many (cs:=[vW 0]) rfl rfl (A1.memA .t2)) (.cons (.tmp rfl) .nil))) rfl ?_
 cases h
 exact ⟨A1.ag,fun w9 hw9=>⟨vN,rfl,A1.kd U5 hw9⟩⟩
 refine Ao<|Af<|Ac rfl<|Ab (Bx rfl)<|AT 4 rfl<|AA rfl ((V0.memA .t1) 4 _ rfl)<|bk h fun J0 X5 h=>Ab (FV.subc (i:=I0) (j:=1) rfl rfl X5)<|Ab (Bx rfl)<|AT 4 rfl<|RG.now .plain (Acts.store (j:=4) (old:=[vU b0,vI a0.fN,v0_1,vU a1,vI I0]) (news:=[vI J0]) (new' :=[vU b0,vI a0.fN,v0_1,vU a1,vI J0]) V0 .t1 rfl rfl rfl rfl rfl rfl (o1 rfl) rfl) fun g9 b4 C4=>Aa<|Af<|Ac rfl<|Ac rfl<|RG.enterP (fst:=[]) (cap:=[]) (vs:=[vP c0,vI j0]) .plain (bd 55) func55 rfl rfl rfl rfl (e2 rfl rfl) rfl fun C7 R4 p8=>Af<|RG.bx b4 rfl rfl fun j9 y0 c4 D4=>RG.bx c4 rfl rfl fun k9 z0 d4 E4=>Ae rfl<|Aa<|Af<|Ab (FV.makeFunc (vs:=[]) (us:=[vP y0,vP z0]) aj (e2 rfl rfl))<|Ae rfl<|Aa<|Aq rfl<|Av (u:=.func (.func 71) #[] #[vP y0,vP z0]) R4 func55 rfl (.cons (.tmp rfl) .nil) rfl<|RG.enterP (fst:=[]) (cap:=[]) (vs:=[.func (.func 71) #[] #[vP y0,vP z0]]) .plain (bd 54) func54 rfl rfl rfl rfl (e1 rfl) rfl fun D7 U4 q8=>Af<|Ae rfl<|Aa<|Af<|Ac rfl<|RG.enterP (fst:=[]) (cap:=[]) (vs:=[vN,.func (.func 71) #[] #[vP y0,vP z0]]) .plain (bd 70) func70 rfl rfl rfl rfl (e2 rfl rfl) rfl fun E7 V4 s8=>Af<|RG.bx d4 rfl rfl fun p9 q1 d2 F4=>Ae rfl<|Aa<|Aj<|Af<|Ac rfl<|Aa ?_
 refine Ar ?_
 have g2:=d2.nilRow 3 (Rep.size Int)
 have G4:=St.nilRowT d2 3 (Rep.size Int)
 have Z4:=AE (cs:=[]) (xs:=([]:List Int)) g2 L (AJ _ _)
 refine MX.rangeP (lb:=[vP y0,vP z0]) rfl g2 rfl (bd 71) func71 rfl rfl rfl fun q9 R0 p1 E1 F7 B1 B2 C6 W4 t8=>Af<|Ae rfl<|Aa<|Aj<|Af<|AA rfl ((B1.memA .t5) 0 _ rfl)<|Ab (Bx rfl)<|AT 1 rfl<|AT 1 rfl<|AA rfl ((aM (B1.memA .t7) 1) 1 _ rfl) ?_
 have I2:=Be h0_1 B1
 have c8:a0.fh.length <= 281474976710656:=AY I2
 refine Ab (Bh (xs:=a0.fh) underlying32 rfl I2)<|Ac rfl<|Aa<|Ar ?_
 obtain ⟨y8,I5,s5⟩:=ai h
 refine MX.lo (α:=UInt64 × Nat) (fun ⟨x0,v0⟩=>[(0,.func (.yield R0) #[] #[]),(1,vP y0),(2,vP z0),(4,vU x0),(11,v0_1),(12,vI ((a0.fh.length:Nat):Int)),(13,vI ((v0:Nat):Int))]) (fun ⟨x0,v0⟩=>[.obj R0 (lpO E1 .ready none),.obj p1 (.deferred (some [])),rr w 3 Int vN (([]:List Int).length) [],.cells q1 [vN] 41,.cells z0 [vI j0] 3,.cells y0 [vP c0] 67,rr w 3 Int s0 u0.length A0,.cells c0 [vU b0,vI a0.fN,v0_1,vU a1,vI J0] 69,.cells E0 [vW 0] 30,.cells D0 [vU a4.fc] 30,.cells C0 [vI a0.fN,v0_1] 34]) (fun ⟨x0,v0⟩=>(x0,v0)) (0,0) I5 B1 ?_
 rintro b7 ⟨x0,v0⟩ x9 W1 g1 D1 h
 unfold ah_l2 at h
 try dsimp only at h
 refine Af<|Ab (Bq (i:=v0) (j:=a0.fh.length) rfl rfl)<|Aa<|Aj<|AN rfl h (fun x3 h=>?_) (fun x3 h=>?_)
 refine Ao<|Aj<|Ar<|Af<|bk h fun P0 q6 h=>?_
 obtain ⟨U6,v7,k5,z5,G7,W5,E5⟩:=Bm (Be h0_1 g1) q6
 obtain rfl:=aU W5
 refine Ab (Bk 2 v0 rfl k5 rfl rfl z5)<|Ab (AK rfl E5)<|RG.nl [vI 0,vI 0] g1 fun s9 k7 g4 C2=>AX [vI P0.1,vI P0.2] g4 .hd (ck rfl) fun t9 q0 D2=>Aa<|Af<|Ab (AB (m:=1) (k:=0) (len:=2) rfl rfl rfl rfl (by omega))<|AA rfl ((q0.memA .hd) 0 _ rfl)<|AA rfl ((q0.memA .t5) 0 _ rfl)<|Ab (Br (i:=P0.1) (j:=j0) rfl rfl)<|Ac rfl<|Bn (s:=21) rfl h (fun z3 h=>?_) (fun z3 h=>?_)
 refine Ah<|Ah<|Ah<|Ah<|Bd rfl rfl<|Aa<|AS rfl<|Ak<|Ac rfl<|Ab (AB (m:=1) (k:=0) (len:=2) rfl rfl rfl rfl (by omega))<|AA rfl ((q0.memA .hd) 0 _ rfl)<|Ab (AB (m:=1) (k:=1) (len:=2) rfl rfl rfl rfl (by omega))<|AA rfl ((q0.memA .hd) 1 _ rfl)<|bk h fun D6 Y5 h=>Ab (Bp (i:=P0.1) (j:=P0.2) rfl rfl Y5)<|AA rfl ((q0.memA .t5) 0 _ rfl)<|bk h fun E6 Z5 h=>Ab (FV.subc (i:=D6) (j:=j0) rfl rfl Z5)<|bk h fun P2 A5 h=>Ab (FV.shlI (a:=(1:UInt64)) (i:=E6) rfl rfl A5)<|Ab (FV.orU (a:=x0) (b:=shlU (1:UInt64) P2) rfl rfl)<|Ae rfl<|Aa<|Ap<|Ak<|Ab (AW (i:=v0) (j:=1) rfl rfl (by omega))<|Ac rfl<|Aa ?_
 obtain ⟨j4,H4⟩:=AH q0 .d1
 exact W1 (x0 ||| (shlU (1:UInt64) P2),v0 + 1) j4 (Tt D1 (Tt C2 (Tt D2 H4))) h
 refine Al (AB (m:=1) (k:=1) (len:=2) rfl rfl rfl rfl (by omega))<|Al (AM rfl ((q0.memA .hd) 1 _ rfl))<|Al (AM rfl ((q0.memA .t5) 0 _ rfl))<|Al (Br (i:=P0.2) (j:=j0) rfl rfl)<|Bb rfl rfl<|Aa<|MX.jo (α:=UInt64) (fun X0=>[(0,.func (.yield R0) #[] #[]),(1,vP y0),(2,vP z0),(4,vU X0),(11,v0_1),(12,vI ((a0.fh.length:Nat):Int)),(13,vI ((v0:Nat):Int))]) (fun X0=>[.obj R0 (lpO E1 .ready none),.obj p1 (.deferred (some [])),rr w 3 Int vN (([]:List Int).length) [],.cells q1 [vN] 41,.cells z0 [vI j0] 3,.cells y0 [vP c0] 67,rr w 3 Int s0 u0.length A0,.cells c0 [vU b0,vI a0.fN,v0_1,vU a1,vI J0] 69,.cells E0 [vW 0] 30,.cells D0 [vU a4.fc] 30,.cells C0 [vI a0.fN,v0_1] 34]) (fun X0=>X0) q0 h ?_ ?_
 rintro X0 y9 k4 I4 h
 try dsimp only at h
 refine Ap<|Ak<|Ab (AW (i:=v0) (j:=1) rfl rfl (by omega))<|Ac rfl<|Aa<|W1 (X0,v0 + 1) k4 (Tt D1 (Tt C2 (Tt D2 I4))) h
 intro c7 X1 h
 try dsimp only at h
 refine AN rfl h (fun C3 h=>?_) (fun C3 h=>?_)
 refine Ak<|Ac rfl<|Ab (AB (m:=1) (k:=0) (len:=2) rfl rfl rfl rfl (by omega))<|AA rfl ((q0.memA .hd) 0 _ rfl)<|Ab (AB (m:=1) (k:=1) (len:=2) rfl rfl rfl rfl (by omega))<|AA rfl ((q0.memA .hd) 1 _ rfl)<|bk h fun F6 b6 h=>Ab (Bp (i:=P0.1) (j:=P0.2) rfl rfl b6)<|AA rfl ((q0.memA .t5) 0 _ rfl)<|bk h fun G6 c6 h=>Ab (FV.subc (i:=F6) (j:=j0) rfl rfl c6)<|bk h fun Q2 B5 h=>Ab (FV.shlI (a:=(1:UInt64)) (i:=G6) rfl rfl B5)<|Ab (FV.orU (a:=x0) (b:=shlU (1:UInt64) Q2) rfl rfl)<|Ae rfl<|Aa ?_
 obtain ⟨p4,J4⟩:=AH q0 .d1
 exact X1 (x0 ||| (shlU (1:UInt64) Q2)) p4 J4 h
 refine Ao ?_
 obtain ⟨q4,K4⟩:=AH q0 .d1
 exact X1 x0 q4 K4 h
 refine AV rfl ?_
 have h:=s5 _ h
 try dsimp only at h
 refine Af<|Ac rfl<|AA rfl ((g1.memA .t5) 0 _ rfl)<|Ab (Bx rfl)<|AT 3 rfl<|AA rfl ((g1.memA .t7) 3 _ rfl)<|Ab (FV.andU (a:=x0) (b:=a1) rfl rfl)<|Ae rfl<|Aa<|Ar ?_
 obtain ⟨u8,F5,p5⟩:=ai h
 refine MX.lf (α:=UInt64 × (List Int) × Value × (List Value)) (fun ⟨t0,H0,B0,Q0⟩=>[(0,.func (.yield R0) #[] #[]),(4,vU t0)]) (fun ⟨t0,H0,B0,Q0⟩=>[.obj R0 (lpO E1 .ready none),.obj p1 (.deferred (some [])),rr w 3 Int B0 H0.length Q0,.cells q1 [B0] 41,.cells z0 [vI j0] 3,.cells y0 [vP c0] 67,rr w 3 Int s0 u0.length A0,.cells c0 [vU b0,vI a0.fN,v0_1,vU a1,vI J0] 69,.cells E0 [vW 0] 30,.cells D0 [vU a4.fc] 30,.cells C0 [vI a0.fN,v0_1] 34]) (fun ⟨t0,H0,B0,Q0⟩ U2=>Cells U2 (bl [.obj R0 (lpO E1 .ready none),.obj p1 (.deferred (some [])),rr w 3 Int B0 H0.length Q0,.cells q1 [B0] 41,.cells z0 [vI j0] 3,.cells y0 [vP c0] 67,rr w 3 Int s0 u0.length A0,.cells c0 [vU b0,vI a0.fN,v0_1,vU a1,vI J0] 69,.cells E0 [vW 0] 30,.cells D0 [vU a4.fc] 30,.cells C0 [vI a0.fN,v0_1] 34] ++ L) Q0 H0) (fun ⟨t0,H0,B0,Q0⟩=>(t0,H0)) (x0 &&& a1,([]:List Int),vN,[]) F5 g1 (Az Z4 (Tt B2 D1)) ?_
 rintro W6 ⟨t0,H0,B0,Q0⟩ U2 H3 Z0 j2 F2 h
 unfold ah_l1 at h
 try dsimp only at h
 refine Aj<|Af<|Ac rfl<|Ab (FV.neqU (a:=t0) (b:=(0:UInt64)) rfl rfl)<|Aa<|MX.ifn rfl h (fun c3 h=>?_) (fun c3 h=>?_)
 refine AV rfl ?_
 have h:=p5 _ h
 try dsimp only at h
 refine MX.fin rfl<|Av (u:=.tuple #[]) W4 func71 rfl .nil rfl<|MX.endRange0 Z0 .hd (by intro h9; cases h9) fun B8 K3 k2=>?_
 obtain ⟨Y1,p2⟩:=AH K3 .d1
 refine Ap<|Af<|AA rfl ((Y1.memA .t2) 0 _ rfl)<|Ae rfl<|Aa<|Aq rfl<|RT.take Y1 .hd fun C8 M3 q2=>?_
 obtain ⟨b1,s2⟩:=AH M3 .d1
 refine Av (u:=B0) V4 func70 rfl (.cons (.tmp rfl) .nil) rfl<|Ae rfl<|Aa<|Aq rfl<|Av (u:=B0) U4 func54 rfl (.cons (.tmp rfl) .nil) rfl<|Ac rfl<|RG.enterP (fst:=[]) (cap:=[]) (vs:=[B0,.func (.func 52) #[vP c0] #[]]) .plain (bd 53) func53 rfl rfl rfl rfl (e2 rfl rfl) rfl fun z7 E2 d8=>Af<|Ae rfl<|Ae rfl<|Aa<|Af<|Ac rfl<|Ac rfl ?_
 have Z7:H0.length <= 4294967296:=St.rowLe (α:=Int) b1 .hd
 obtain ⟨Q6,p7,b5⟩:=St.rowV (α:=Int) b1 .hd
 refine Ab (FV.lenV underlying41 rfl b5)<|RG.enterP (fst:=[vP c0]) (cap:=[]) (vs:=[vI ((H0.length:Nat):Int)]) .plain (bd 52) func52 rfl rfl rfl rfl (e1 rfl) rfl fun A7 P4 j8=>Af<|Ae rfl<|Ae rfl<|Aa<|Af<|Ac rfl<|Ab (Bx rfl)<|AT 0 rfl<|Ab (FV.loadN (cs:=[vU b0]) rfl rfl (aA (b1.memA .t5) 0 1))<|Ac rfl<|bk h fun p0 v6 h=>BA (.tuple #[vI p0.1,.agg #[vU p0.2.1.fc],vI p0.2.2]) (bd 14) rfl (e2 rfl rfl) (fun w9 hw9=>az_c n (b1.hL0 hL hw9) (⟨b0⟩:Ta) v6) rfl<|Ac rfl<|Ab (Am rfl rfl)<|Ab (Am rfl rfl)<|Ab (Am rfl rfl)<|RG.nl [vW 0] b1 fun D8 d7 P3 u2=>Ae rfl<|AX [vU p0.2.1.fc] P3 .hd (o1 rfl) fun E8 Z1 v2=>Ae rfl<|Aa<|Af<|Ac rfl<|Ab (AK rfl (Z1.memA .hd))<|Ab (Bx rfl)<|AT 0 rfl<|RG.now .plain (Acts.store (j:=0) (old:=[vU b0,vI a0.fN,v0_1,vU a1,vI J0]) (news:=[vU p0.2.1.fc]) (new' :=[vU p0.2.1.fc,vI a0.fN,v0_1,vU a1,vI J0]) Z1 .t6 rfl rfl rfl rfl rfl rfl (o1 rfl) rfl) fun F8 s1 x2=>Aa<|Af<|Ac rfl<|Ac rfl<|Ae rfl<|Ae rfl<|Aa<|Aq rfl<|Av (u:=.tuple #[vI p0.1,vI p0.2.2]) P4 func52 rfl (.cons (.tmp rfl) (.cons (.tmp rfl) .nil)) rfl<|Ac rfl<|Ab (Am rfl rfl)<|Ab (Am rfl rfl)<|Ae rfl<|Ae rfl<|Aa<|Aj<|Af<|Ac rfl ?_
 refine Ab (FV.neq (i:=p0.2.2) (j:=0) rfl rfl)<|Aa<|MX.ifn rfl h (fun G1 h=>?_) (fun G1 h=>?_)
 refine Ao<|Af<|Ac rfl<|Ac rfl<|bk h fun G0 j6 h=>?_
 obtain ⟨u5,k6⟩:=au j6
 obtain ⟨Y2,q7,Q1,H2,D3,J5,C5⟩:=St.nth (α:=Int) s1 .t1 (Az F2 (Tt k2 (Tt p2 (Tt q2 (Tt s2 (Tt u2 (Tt v2 x2))))))) k6
 obtain ⟨Z2,s7,c5⟩:=St.nthOwn (α:=Int) s1 .t1 H2
 obtain rfl:Y2 = ⟨Z2,0,none⟩:=by rw [c5] at Q1; cases Q1; rfl
 have d5:D3 = [vI G0]:=J5; subst d5
 refine Ab (Bk 1 (p0.1.toNat) rfl Q1 rfl u5 H2)<|AA rfl (C5 0 _ rfl)<|Ae rfl<|Ae rfl<|Aa<|Aq rfl<|Av (u:=.tuple #[vI G0,vI 0]) E2 func53 rfl (.cons (.tmp rfl) (.cons (.tmp rfl) .nil)) rfl<|Ac rfl<|Ab (Am rfl rfl)<|Ab (Am rfl rfl)<|Ae rfl<|Ae rfl<|Aa<|Aj<|Af<|Ac rfl<|Ab (FV.neqN (i:=0) (j:=0) rfl rfl)<|Aa<|Bl rfl<|Ao<|Af<|Ac rfl<|Ae rfl<|Aa<|Ak<|Ac rfl<|Ac rfl<|Au .plain rfl (jA G0 (vI G0) s1 aq (e1 rfl)) fun I8 g7 I1 s4=>bk h fun J6 s6 h=>?_
 have J2:=Tt C4 (Tt D4 (Tt E4 (Tt F4 (Tt G4 (Tt B2 (Tt D1 (Tt j2 (Tt k2 (Tt p2 (Tt q2 (Tt s2 (Tt u2 (Tt v2 (Tt x2 s4))))))))))))))
 refine Bz .plain rfl (Bw (α:=Int) (ys:=([G0]:List Int)) s6 I1 (fun _ _=>.t6) aq rfl rfl (Az G2 J2) (Src.row (α:=Int) I1 .hd (jC G0 (vI G0) I1 L rfl))) fun H6 J8 ⟨E3,Q3,u4,X4⟩=>Ae rfl<|Aa<|Ap ?_
 obtain ⟨R3,y2⟩:=AH Q3 .d6
 exact I3 (G0,J6,p0.2.1.fc,J0,H6,E3) R3 (Tt A4 (Tt J2 (Tt u4 y2))) (Az X4 y2) h
 refine Af<|Ae rfl<|Aa<|Af<|Ac rfl<|Ac rfl<|Ae rfl<|Ae rfl<|Aa<|Aq rfl<|Av (u:=.tuple #[vI 0,vI p0.2.2]) E2 func53 rfl (.cons (.tmp rfl) (.cons (.tmp rfl) .nil)) rfl<|Ac rfl<|Ab (Am rfl rfl)<|Ab (Am rfl rfl)<|Ae rfl<|Ae rfl<|Aa<|Aj<|Af<|Ac rfl<|Ab (FV.neq (i:=p0.2.2) (j:=0) rfl rfl)<|Aa<|MX.cond_kt rfl (ee (decide_eq_false G1))<|Af<|Ac rfl<|Ae rfl<|Ae rfl<|Aa ?_
 have h:=ao h R1
 refine Aq rfl<|Av (u:=.tuple #[vN,vI p0.2.2]) P1 func24 rfl (.cons (.tmp rfl) (.cons (.tmp rfl) .nil)) rfl<|Ac rfl<|Ab (Am rfl rfl)<|Ab (Am rfl rfl)<|Ae rfl<|Ae rfl<|Aa<|Af<|Ac rfl<|Ab (FV.neq (i:=p0.2.2) (j:=0) rfl rfl)<|Aa<|MX.cond_kt rfl (ee (decide_eq_false G1))<|Af<|Ab (AL (vs:=[]) (u:=.agg #[vW 0]) aj (fun w9=>by kernel_rfl))<|Ac rfl<|Ae rfl<|AX [vW 0] s1 .t7 (o1 rfl) fun K8 u1 J7=>Ae rfl<|Aa<|Aq rfl ?_
 have K5:=Bo (α:=Int) u1 L
 refine Av hb0 func8 rfl (.cons (.tmp rfl) (.cons (.many (cs:=[vW 0]) rfl rfl (u1.memA .t7)) (.cons (.tmp rfl) .nil))) rfl ?_
 cases h
 exact ⟨u1.ag,fun w9 hw9=>⟨vN,rfl,u1.kd K5 hw9⟩⟩
 refine Ao<|Aj<|Ar<|Af<|Ac rfl<|Ac rfl<|bk h fun K0 x6 h=>BA (vI K0) (bd 68) rfl (e1 rfl) (fun w9 hw9=>al_c n (Z0.hL0 hL hw9) t0 (hG0.keep (Z0.ag.trans hw9)) x6) rfl<|RG.yieldP (fd:=70) (vs:=[vI K0]) .plain rfl (e1 rfl) Z0 .hd C6 rfl rfl rfl fun B7 Q4 k8=>Ak<|Ae rfl<|Aa<|MX.begin Z0 .hd fun M8 c2 z2=>Ar<|Ak<|AA rfl ((c2.memA .t3) 0 _ rfl)<|Ac rfl<|Au .plain rfl (jA K0 (vI K0) c2 aq (e1 rfl)) fun P8 j7 J1 A2=>bk h fun K6 u6 h=>Bz .plain rfl (Bw (α:=Int) (ys:=([K0]:List Int)) u6 J1 (fun _ _=>.t3) aq rfl rfl (Az F2 (Tt z2 A2)) (Src.row (α:=Int) J1 .hd (jC K0 (vI K0) J1 L rfl))) fun R2 Q8 ⟨F3,K1,v4,Y4⟩=>RG.now .plain (AP (news:=[R2]) K1 .t4 rfl rfl rfl (St.c1 (α:=Int) K1 .t3) rfl rfl (o1 (St.o1 (α:=Int) K1 .t3))) fun R8 U3 x4=>Aa<|Ap<|MX.roundEnd Q4 U3 .t1 fun U8 V3 y4=>Ab (FV.not rfl)<|Aa<|Bl rfl<|Ao<|Ap<|Ak<|Ac rfl<|Ac rfl<|Ab (FV.subU (a:=t0) (b:=(1:UInt64)) rfl rfl)<|Ab (FV.andU (a:=t0) (b:=t0 - (1:UInt64)) rfl rfl)<|Ae rfl<|Aa ?_
 obtain ⟨W3,z4⟩:=AH V3 .d1
 have K2:=Tt x4 (Tt y4 z4)
 exact H3 (t0 &&& (t0 - (1:UInt64)),K6,R2,F3) W3 (Tt j2 (Tt z2 (Tt A2 (Tt v4 K2)))) (Az Y4 K2) h
 refine Af<|Ab (AL (vs:=[]) (u:=.agg #[vW 0]) aj (fun w9=>by kernel_rfl))<|Ae rfl<|AX [vW 0] M0 .hd (o1 rfl) fun V8 v1 K7=>Ae rfl<|Aa<|Aq rfl ?_
 have M5:=Bo (α:=Int) v1 L
 refine Av hb0 func8 rfl (.cons (.tmp rfl) (.cons (.many (cs:=[vW 0]) rfl rfl (v1.memA .hd)) (.cons (.tmp rfl) .nil))) rfl ?_
 cases h
 exact ⟨v1.ag,fun w9 hw9=>⟨vN,rfl,v1.kd M5 hw9⟩⟩
 intro X6 Y0 h
 try dsimp only at h
 refine Ak<|Ab (AK rfl (d0.memA .t2))<|Ac rfl<|bk h fun M6 y6 h=>BA (.bool M6) (bd 22) rfl (e2 rfl rfl) (fun w9 hw9=>bo_c n (d0.hL0 hL hw9) a0 (d0.k0 h0_1 hw9) a1 y6) rfl<|Ab (FV.not rfl)<|Ac rfl<|RG.ifnb (s:=30) rfl h (fun d3 h=>?_) (fun d3 h=>?_)
 refine Al (AK rfl (d0.memA .t2))<|Al (Ag rfl)<|bk h fun P6 z6 h=>RG.callq' (v:=.bool P6) (fst:=[]) (cap:=[]) (.yes rfl rfl) (bd 22) rfl (e2 rfl rfl) (fun w9 hw9=>bo_c n (d0.hL0 hL hw9) a0 (d0.k0 h0_1 hw9) a3 z6) rfl<|Al (FV.not rfl)<|Bb rfl rfl<|Ac rfl<|RG.ifnb (s:=36) rfl h (fun g3 h=>?_) (fun g3 h=>?_)
 refine Al (Ag rfl)<|Al (FV.lss (i:=a2) (j:=0) rfl rfl)<|Bb rfl rfl<|Ac rfl<|Bn (s:=40) rfl h (fun j3 h=>?_) (fun j3 h=>?_)
 refine Ah<|Ah<|Ah<|Ah<|Bd rfl rfl<|Ac rfl<|Ah<|Ah<|Ah<|Ah<|Ah<|Bd rfl rfl<|Aa<|Y0 true d0 (Bs _ _) h
 refine Al (Ag rfl)<|RG.fg 0 rfl<|Al (AM rfl ((d0.memA .t2) 0 _ rfl))<|Al (FV.geq (i:=a2) (j:=a0.fN) rfl rfl)<|Bb rfl rfl<|Ac rfl<|Bn (s:=46) rfl h (fun k3 h=>?_) (fun k3 h=>?_)
 refine Ah<|Ah<|Ah<|Ah<|Ah<|Bd rfl rfl<|Aa<|Y0 true d0 (Bs _ _) h
 refine Al (Ag rfl)<|Al (Ag rfl)<|bk h fun V1 v5 h=>Al (FV.shrI (a:=a1) (i:=a2) rfl rfl v5)<|Al (FV.andU (a:=shrU a1 V1) (b:=(1:UInt64)) rfl rfl)<|Al (FV.eqlU (a:=(shrU a1 V1) &&& (1:UInt64)) (b:=(0:UInt64)) rfl rfl)<|Bb rfl rfl<|Aa<|Y0 (decide (((shrU a1 V1) &&& (1:UInt64)) = (0:UInt64))) d0 (Bs _ _) h
 refine Ah<|Ah<|Bd rfl rfl<|Ac rfl<|Ah<|Ah<|Ah<|Ah<|Bd rfl rfl<|Ac rfl<|Ah<|Ah<|Ah<|Ah<|Ah<|Bd rfl rfl<|Aa<|Y0 true d0 (Bs _ _) h
 refine Ah<|Ah<|Ah<|Ah<|Bd rfl rfl<|Ac rfl<|Ah<|Ah<|Bd rfl rfl<|Ac rfl<|Ah<|Ah<|Ah<|Ah<|Bd rfl rfl<|Ac rfl<|Ah<|Ah<|Ah<|Ah<|Ah<|Bd rfl rfl<|Aa<|Y0 true d0 (Bs _ _) h
 refine Af<|Ab (AL (vs:=[]) (u:=.agg #[vW 0]) aj (fun w9=>by kernel_rfl))<|Ac rfl<|Ae rfl<|AX [vW 0] d0 .hd (o1 rfl) fun W8 x1 M7=>Ae rfl<|Aa<|Aq rfl ?_
 have P5:=Bo (α:=Int) x1 L
 refine Av hb0 func8 rfl (.cons (.tmp rfl) (.cons (.many (cs:=[vW 0]) rfl rfl (x1.memA .hd)) (.cons (.tmp rfl) .nil))) rfl ?_
 cases h
 exact ⟨x1.ag,fun w9 hw9=>⟨vN,rfl,x1.kd P5 hw9⟩⟩

def ap_l1 (n:Nat) (k0:List UInt64) (a1:UInt64) (d0:UInt64 × UInt64 -> Option UInt64):UInt64 × UInt64 -> Option UInt64
  | (b0,c0)=>(if b0 = (0:UInt64) then some c0 else (al_p n b0).bind fun j0=>(idx k0 j0).bind fun g0=>d0 (b0 &&& (b0 - (1:UInt64)),c0 ||| (g0 &&& a1)))
def ap_l2 (n:Nat) (g0:List UInt64) (a1:UInt64) (d0:UInt64 -> Option UInt64):UInt64 -> Option UInt64
  | b0=>Option.bind (ac (ap_l1 n g0 a1) n (b0,b0)) (fun c0=>(if c0 = b0 then some b0 else d0 c0))
def ap_l3 (n:Nat) (k0:List UInt64) (a1:UInt64) (g0:UInt64 × (List UInt64) -> Option (List UInt64)):UInt64 × (List UInt64) -> Option (List UInt64)
  | (b0,d0)=>(if b0 = (0:UInt64) then some d0 else Option.bind (ac (ap_l2 n k0 a1) n (b0 &&& (-b0))) (fun c0=>(app d0 ([c0]:List UInt64)).bind fun j0=>g0 (b0 &&& ~~~c0,j0)))
def ap_p (n:Nat) (a0:Tb) (a1:UInt64):Option (List UInt64):=
  (aZ_p n a0).bind fun c0=>Option.bind (ac (ap_l3 n c0 a1) n (a1,([]:List UInt64))) (fun b0=>some b0)
theorem ap_c (n:Nat) {L w} (hL:hl L w) (a0:Tb) {v0_1:Value} (h0_1:Rep.R w L [v0_1] a0.fh) (a1:UInt64) (hG0:Glob 0 tab0 w)  {r:List UInt64} (h:ap_p n a0 a1 = some r) :
 Cl 59 #[.agg #[vI a0.fN,v0_1],vU a1] w (ah w fun w' u=>∃ v0_0:Value,u = v0_0/\Rep.R w' L [v0_0] r):=by
 unfold ap_p at h
 refine AG func59 rfl rfl rfl fun _ cs0 hb0=>Af<|RG.bx (AF w) rfl rfl fun X3 B3 Z1 H3=>RG.bx Z1 rfl rfl fun p4 g0 G0 I3=>Ae rfl<|Aa<|Af<|Ab (AK rfl (G0.memA .t1))<|bk h fun v4 p3 h=>jE (bd 69) rfl (e1 rfl) (fun p q=>aZ_c n (G0.hL hL q) a0 (G0.km h0_1 q) p3) rfl fun q4 p0 F2 ⟨V3,hu_,G1⟩=>?_
 subst hu_
 obtain ⟨q2,J3⟩:=G0.agr F2
 refine RG.nl [vN] q2 fun s4 j0 s2 C1=>?_
 have E1:=Aw G1 C1
 refine RG.now .plain (AP (news:=[p0]) s2 .hd rfl rfl rfl (Rep.c1 E1) rfl rfl (o1 (By E1))) fun v3 V0 D2=>Aa<|Af<|Ae rfl<|Aa<|Aj<|Af<|AA rfl ((V0.memA .t1) 0 _ rfl)<|Ae rfl<|Aa<|Ar ?_
 have u1:=V0.nilRow 26 (Rep.size UInt64)
 have E2:=St.nilRowT V0 26 (Rep.size UInt64)
 obtain ⟨X1,v1⟩:=AH u1 (.a0 (.a0 (.a0 .done)))
 obtain ⟨Q3,W2,M2⟩:=ai h
 refine MX.loopD (α:=UInt64 × (List UInt64) × (List Nat) × Value × (List Value)) (fun ⟨t0,c0,u0,b0,k0⟩=>[(3,vP g0),(5,vP j0),(6,b0),(7,vU t0)]) (fun ⟨t0,c0,u0,b0,k0⟩ C0=>St w C0 (rr w 26 UInt64 b0 c0.length k0 :: .cells j0 [p0] 104 :: .cells g0 [vU a1] 26 :: (bm u0 ++ []))/\Tr v3 [rr w 26 UInt64 vN (([]:List UInt64).length) [],.cells j0 [p0] 104,.cells g0 [vU a1] 26] C0 (rr w 26 UInt64 b0 c0.length k0 :: .cells j0 [p0] 104 :: .cells g0 [vU a1] 26 :: (bm u0 ++ []))/\Cells C0 (bl (rr w 26 UInt64 b0 c0.length k0 :: .cells j0 [p0] 104 :: .cells g0 [vU a1] 26 :: (bm u0 ++ [])) ++ L) k0 c0) (fun ⟨t0,c0,u0,b0,k0⟩=>(t0,c0)) (fun ⟨t0,c0,u0,b0,k0⟩=>cols u0) (a1,([]:List UInt64),(([]:List Nat)),vN,[]) rfl W2 ⟨rfl,rfl,rfl,rfl,trivial⟩ ⟨X1,Bs _ _,(Az (AE (cs:=[]) (xs:=([]:List UInt64)) u1 L (AJ _ _)) v1)⟩ ?_
 rintro y3 ⟨t0,c0,u0,b0,k0⟩ C0 U1 ⟨p1,x1,D1⟩ h
 unfold ap_l3 at h
 try dsimp only at h
 refine Aj<|Af<|Ac rfl<|Ab (FV.neqU (a:=t0) (b:=(0:UInt64)) rfl rfl)<|Aa<|MX.ifn rfl h (fun M1 h=>?_) (fun M1 h=>?_)
 refine AV rfl ?_
 have h:=M2 _ h
 try dsimp only at h
 refine Af<|Ac rfl<|Ae rfl<|Aa<|Aq rfl<|RT.takes (O1:=[rr w 26 UInt64 b0 c0.length k0,.cells j0 [p0] 104,.cells g0 [vU a1] 26]) (O2:=[]) (Ds:=u0) p1 fun J1 Y1 u2=>?_
 have M0:St _ J1 [rr w 26 UInt64 b0 c0.length k0,.cells j0 [p0] 104,.cells g0 [vU a1] 26]:=Y1
 have v2:Tr C0 (rr w 26 UInt64 b0 c0.length k0 :: .cells j0 [p0] 104 :: .cells g0 [vU a1] 26 :: (bm u0 ++ [])) J1 [rr w 26 UInt64 b0 c0.length k0,.cells j0 [p0] 104,.cells g0 [vU a1] 26]:=u2
 have P0:=Bt M0 .hd
 have G3:=Bu M0 .hd
 have Z2:=Bv (α:=UInt64) (v:=b0) (xs:=c0) P0 L (Bf (α:=UInt64) M0 .hd (Az D1 v2) hL)
 refine AQ hb0 func59 rfl rfl ?_
 cases h
 exact ⟨P0.ag,fun p q=>⟨b0,rfl,P0.kd Z2 q⟩⟩
 refine Ao<|Ar<|Af<|Ac rfl<|Ac rfl<|Ab (FV.negU (a:=t0) rfl)<|Ab (FV.andU (a:=t0) (b:=-t0) rfl rfl)<|Ae rfl<|Aa<|Aj<|Ar ?_
 obtain ⟨R3,X2,P2⟩:=ai h
 refine MX.loopD (α:=UInt64 × (List Nat)) (fun ⟨d0,q0⟩=>[(3,vP g0),(5,vP j0),(6,b0),(7,vU t0),(8,vU d0)]) (fun ⟨d0,q0⟩ g1=>St w g1 (rr w 26 UInt64 b0 c0.length k0 :: .cells j0 [p0] 104 :: .cells g0 [vU a1] 26 :: (bm q0 ++ []))/\Tr C0 (rr w 26 UInt64 b0 c0.length k0 :: .cells j0 [p0] 104 :: .cells g0 [vU a1] 26 :: (bm u0 ++ [])) g1 (rr w 26 UInt64 b0 c0.length k0 :: .cells j0 [p0] 104 :: .cells g0 [vU a1] 26 :: (bm q0 ++ []))) (fun ⟨d0,q0⟩=>d0) (fun ⟨d0,q0⟩=>cols q0) (t0 &&& (-t0),(u0)) rfl X2 ⟨rfl,rfl,rfl,rfl,rfl,trivial⟩ ⟨p1,Bs _ _⟩ ?_
 rintro z3 ⟨d0,q0⟩ g1 V1 ⟨b2,W0⟩ h
 unfold ap_l2 at h
 try dsimp only at h
 refine Ar<|Af<|Ac rfl<|RG.nl [vW 0] b2 fun Y3 J0 c2 X0=>AX [vU d0] c2 .hd (o1 rfl) fun u3 Q0 Y0=>Aa<|Aj<|Af<|Ac rfl<|jE (bd 50) rfl (e1 rfl) (fun p q=>BC (bE_c n (Q0.hL hL q) d0) fun (w8:World) (u8:Value) ⟨b0_,hu_,s_⟩=>(⟨b0_,hu_,s_.from q⟩:∃ z0:Nat,u8 = Value.func (.func 67) #[] #[vP z0]/\St u3 w8 [.cells z0 [vU d0] 26])) rfl fun Z3 W3 K3 ⟨z0,c3,I1⟩=>?_
 subst c3
 have Z0:=bb Q0 I1
 refine Aa<|Ar<|MX.rangeP (lb:=[vP z0]) rfl (aD Q0 I1) rfl (bd 67) func67 rfl rfl rfl fun b4 H1 y0 q3 E3 d2 b1 s3 G2 M3=>Ar ?_
 obtain ⟨U3,Y2,Q2⟩:=ai h
 refine MX.lo (α:=UInt64 × UInt64) (fun ⟨s0,v0⟩=>[(0,.func (.yield H1) #[] #[]),(1,vP z0)]) (fun ⟨s0,v0⟩=>(.obj H1 (lpO q3 .ready none) :: .obj y0 (.deferred (some [])) :: .cells z0 [vU s0] 26 :: .cells J0 [vU v0] 26 :: rr w 26 UInt64 b0 c0.length k0 :: .cells j0 [p0] 104 :: .cells g0 [vU a1] 26 :: (bm q0 ++ []))) (fun ⟨s0,v0⟩=>(s0,v0)) (d0,d0) Y2 d2 ?_
 rintro A3 ⟨s0,v0⟩ u4 W1 B0 H0 h
 unfold ap_l1 at h
 try dsimp only at h
 refine Aj<|Af<|AA rfl ((B0.memA .t2) 0 _ rfl)<|Ab (FV.neqU (a:=s0) (b:=(0:UInt64)) rfl rfl)<|Aa<|MX.ifn rfl h (fun P1 h=>?_) (fun P1 h=>?_)
 refine AV rfl ?_
 have h:=Q2 _ h
 try dsimp only at h
 refine MX.fin rfl<|Av (u:=.tuple #[]) G2 func67 rfl .nil rfl<|MX.endRange0 B0 .hd (by intro h9; cases h9) fun I0 q1 y1=>?_
 have D0:St _ _ (.obj y0 (.deferred (some [])) :: .cells z0 [vU s0] 26 :: .cells J0 [vU v0] 26 :: rr w 26 UInt64 b0 c0.length k0 :: .cells j0 [p0] 104 :: .cells g0 [vU a1] 26 :: (bm q0 ++ [])):=q1.arr2 (.one .t1 (.one .t1 (.one .t1 (.one .t1 (.one .t1 (.one .t1 (.drop .hd .rest)))))))
 have z1:Tr I0 _ I0 (.obj y0 (.deferred (some [])) :: .cells z0 [vU s0] 26 :: .cells J0 [vU v0] 26 :: rr w 26 UInt64 b0 c0.length k0 :: .cells j0 [p0] 104 :: .cells g0 [vU a1] 26 :: (bm q0 ++ [])):=Tr.arr2 (St.arr2Of q1 (.one .t1 (.one .t1 (.one .t1 (.one .t1 (.one .t1 (.one .t1 (.drop .hd .rest))))))))
 refine Ap<|Aj<|Af<|AA rfl ((D0.memA .t2) 0 _ rfl)<|Ac rfl<|Ab (FV.eqlU (a:=v0) (b:=d0) rfl rfl)<|Aa<|AN rfl h (fun Q1 h=>?_) (fun Q1 h=>?_)
 refine AV rfl ?_
 have h:=P2 _ h
 try dsimp only at h
 refine Af<|Ac rfl<|Ac rfl<|Au .plain rfl (jA d0 (vU d0) D0 eS (e1 rfl)) fun c4 C3 R0 x2=>bk h fun j1 j3 h=>?_
 have F1:=Tt W0 (Tt X0 (Tt Y0 (Tt Z0 (Tt b1 (Tt H0 (Tt y1 (Tt z1 x2)))))))
 refine Bz .plain rfl (Bw (α:=UInt64) (ys:=([d0]:List UInt64)) j3 R0 (fun _ _=>.t4) eS rfl rfl (Az D1 F1) (Src.row (α:=UInt64) R0 .hd (jC d0 (vU d0) R0 L rfl))) fun d1 K1 ⟨K0,s1,y2,I2⟩=>Ae rfl<|Aa<|Ak<|Ac rfl<|Ac rfl<|Ab (FV.andNotU (a:=t0) (b:=d0) rfl rfl)<|Ae rfl<|Aa<|Ap ?_
 have g2:St _ _ (rr w 26 UInt64 d1 j1.length K0 :: .cells j0 [p0] 104 :: .cells g0 [vU a1] 26 :: .obj y0 (.deferred (some [])) :: (bm q0 ++ [])):=s1.arr2 (.one .t4 (.one .t4 (.one .t4 (.one .t1 (.drop .hd (.drop .hd (.drop .hd .rest)))))))
 have A1:Tr K1 _ K1 (rr w 26 UInt64 d1 j1.length K0 :: .cells j0 [p0] 104 :: .cells g0 [vU a1] 26 :: .obj y0 (.deferred (some [])) :: (bm q0 ++ [])):=Tr.arr2 (St.arr2Of s1 (.one .t4 (.one .t4 (.one .t4 (.one .t1 (.drop .hd (.drop .hd (.drop .hd .rest))))))))
 exact U1 (t0 &&& ~~~d0,j1,(y0 :: q0),d1,K0) _ _ _ ⟨rfl,rfl,rfl,rfl,trivial⟩ rfl ⟨g2,(Tt x1 (Tt F1 (Tt y2 A1))),(Az I2 A1)⟩ h
 refine Ao<|Ak<|AA rfl ((D0.memA .t2) 0 _ rfl)<|Ae rfl<|Aa<|Ap ?_
 have j2:St _ _ (rr w 26 UInt64 b0 c0.length k0 :: .cells j0 [p0] 104 :: .cells g0 [vU a1] 26 :: .obj y0 (.deferred (some [])) :: (bm q0 ++ [])):=D0.arr2 (.one .t3 (.one .t3 (.one .t3 (.one .hd (.drop .hd (.drop .hd .rest))))))
 have z2:Tr I0 _ I0 (rr w 26 UInt64 b0 c0.length k0 :: .cells j0 [p0] 104 :: .cells g0 [vU a1] 26 :: .obj y0 (.deferred (some [])) :: (bm q0 ++ [])):=Tr.arr2 (St.arr2Of D0 (.one .t3 (.one .t3 (.one .t3 (.one .hd (.drop .hd (.drop .hd .rest)))))))
 exact V1 (v0,(y0 :: q0)) _ _ _ ⟨rfl,rfl,rfl,rfl,rfl,trivial⟩ rfl ⟨j2,(Tt W0 (Tt X0 (Tt Y0 (Tt Z0 (Tt b1 (Tt H0 (Tt y1 (Tt z1 z2))))))))⟩ h
 refine Ao<|Aj<|Ar<|Af<|Ac rfl<|AA rfl ((B0.memA .t2) 0 _ rfl)<|bk h fun k1 k3 h=>BA (vI k1) (bd 68) rfl (e1 rfl) (fun p q=>al_c n (B0.hL0 hL q) s0 (hG0.keep (B0.ag.trans q)) k3) rfl<|RG.yieldP (fd:=59) (vs:=[vI k1]) .plain rfl (e1 rfl) B0 .hd s3 rfl rfl rfl fun F3 H2 P3=>Ak<|Ae rfl<|Aa<|MX.begin B0 .hd fun d4 F0 B1=>Ar<|du 8 fun x0 A0=>Rx 0 384 x0 rfl A0 (AM rfl ((F0.memA .t3) 0 _ rfl))<|Rx 1 472 x0 rfl A0 (AM rfl ((F0.memA .t5) 0 _ rfl))<|Rv 2 x0 rfl A0 (fun _=>Ag rfl)<|bk h fun E0 d3 h=>?_
 obtain ⟨R2,g3⟩:=au d3
 obtain ⟨x3,D3,J2,U2,R1,b3,V2⟩:=Bm (Aw G1 (Tt C1 (Tt D2 (Tt E2 (Tt v1 (Tt x1 (Tt W0 (Tt X0 (Tt Y0 (Tt Z0 (Tt b1 (Tt H0 B1)))))))))))) g3
 have K2:R1 = [vU E0]:=b3; subst K2
 refine Rv 3 x0 rfl A0 (fun _=>Bk 1 (k1.toNat) rfl J2 rfl R2 U2)<|Rx 4 448 x0 rfl A0 (AM rfl (V2 0 _ rfl))<|Rx 5 448 x0 rfl A0 (AM rfl ((F0.memA .t6) 0 _ rfl))<|Rv 6 x0 rfl A0 (fun _=>FV.andU (a:=E0) (b:=a1) rfl rfl)<|Rv 7 x0 rfl A0 (fun _=>FV.orU (a:=v0) (b:=E0 &&& a1) rfl rfl)<|RD.nw 8 511 x0 rfl rfl .plain (AP (news:=[vW ((v0 ||| (E0 &&& a1)).toNat:Int)]) F0 .t3 rfl rfl rfl rfl rfl rfl (o1 rfl)) fun g4 k2 A2=>AZ (dk x0)<|Ap<|MX.roundEnd H2 k2 .hd fun j4 U0 B2=>Ab (FV.not rfl)<|Aa<|Bl rfl<|Ao<|Ap<|Ak<|AA rfl ((U0.memA .t2) 0 _ rfl)<|AA rfl ((U0.memA .t2) 0 _ rfl)<|Ab (FV.subU (a:=s0) (b:=(1:UInt64)) rfl rfl)<|Ab (FV.andU (a:=s0) (b:=s0 - (1:UInt64)) rfl rfl)<|AX [vW ((s0 &&& (s0 - (1:UInt64))).toNat:Int)] U0 .t2 (o1 rfl) fun k4 p2 C2=>Aa<|W1 (s0 &&& (s0 - (1:UInt64)),v0 ||| (E0 &&& a1)) p2 (Tt H0 (Tt B1 (Tt A2 (Tt B2 C2)))) h
def bq_p (n:Nat) (a0:Tb) (a1:UInt64):Option (Bool × Int):=
  (bu_p n a0 a1).bind fun b0=>(if b0 = 0 then (ap_p n a0 a1).bind fun c0=>some ((decide (c0.length = 1)),(0:Int)) else some (false,b0))
theorem bq_c (n:Nat) {L w} (hL:hl L w) (a0:Tb) {v0_1:Value} (h0_1:Rep.R w L [v0_1] a0.fh) (a1:UInt64) (hG0:Glob 0 tab0 w)  {r:Bool × Int} (h:bq_p n a0 a1 = some r) :
 Cl 29 #[.agg #[vI a0.fN,v0_1],vU a1] w (ah w fun _ u=>u = .tuple #[.bool r.1,vI r.2]):=by
 unfold bq_p at h
 refine AG func29 rfl rfl rfl fun _ cs0 hb0=>Af<|RG.bx (AF w) rfl rfl fun B0 u0 b0 v0=>Ae rfl<|Ae rfl<|Aa<|Aj<|Af<|Ab (AK rfl (b0.memA .hd))<|Ac rfl<|bk h fun g0 s0 h=>BA (vI g0) (bd 47) rfl (e2 rfl rfl) (fun p q=>bu_c n (b0.hL0 hL q) a0 (b0.k0 h0_1 q) a1 s0) rfl<|Ae rfl<|Aa<|Af<|Ac rfl<|Ab (FV.neq (i:=g0) (j:=0) rfl rfl)<|Aa<|MX.ifn rfl h (fun j0 h=>?_) (fun j0 h=>?_)
 refine Ao<|Af<|Ab (AK rfl (b0.memA .hd))<|Ac rfl<|bk h fun c0 t0 h=>jE (bd 59) rfl (e2 rfl rfl) (fun p q=>ap_c n (b0.hL hL q) a0 (b0.km h0_1 q) a1 (hG0.keep (b0.ag.trans q)) t0) rfl fun C0 A0 q0 ⟨z0,hu_,d0⟩=>?_
 subst hu_
 obtain ⟨p0,x0⟩:=b0.agr q0
 have y0:c0.length <= 281474976710656:=AY d0
 refine Ab (Bh (xs:=c0) underlying104 rfl d0)<|Ab (FV.eqlN (i:=c0.length) (j:=1) rfl rfl)<|Ae rfl<|Ae rfl<|Aa<|Aq rfl<|Av hb0 func29 rfl (.cons (.tmp rfl) (.cons (.tmp rfl) .nil)) rfl ?_
 cases h
 exact p0.gv
 refine Af<|Ac rfl<|Ae rfl<|Ae rfl<|Aa<|Aq rfl<|Av hb0 func29 rfl (.cons (.tmp rfl) (.cons (.tmp rfl) .nil)) rfl ?_
 cases h
 exact b0.gv
def av_l1 (_n:Nat) (a0:List Int) (g0:List (Int × Int)) (j0:Int × (List Int) -> Option (List Int)):Int × (List Int) -> Option (List Int)
  | (d0,c0)=>(idx a0 (((a0.length:Nat):Int) - 1)).bind fun p0=>(if d0 = p0 then some c0 else (chk ((cU g0 d0 (0:Int)) + 1)).bind fun k0=>(idx a0 k0).bind fun b0=>(app c0 ([b0]:List Int)).bind fun q0=>j0 (b0,q0))
def av_l2 (_n:Nat) (a0:List Int) (d0:Nat × (List (Int × Int)) -> Option (List (Int × Int))):Nat × (List (Int × Int)) -> Option (List (Int × Int))
  | (b0,c0)=>(if b0 < a0.length then (a0[b0]?).bind fun g0=>d0 (b0 + 1,cu c0 g0 ((b0:Nat):Int)) else some c0)
def av_p (n:Nat) (a0:List Int):Option (List Int):=
  Option.bind (ac (av_l2 n a0) n (0,([]:List (Int × Int)))) (fun c0=>(a0[0]?).bind fun b0=>Option.bind (ac (av_l1 n a0 c0) n (b0,([b0]:List Int))) (fun d0=>some d0))
theorem av_c (n:Nat) {L w} (hL:hl L w) {a0:List Int} {v0_0:Value} (h0_0:Rep.R w L [v0_0] a0)  {r:List Int} (h:av_p n a0 = some r) :
 Cl 30 #[v0_0] w (ah w fun w' u=>∃ v0_0:Value,u = v0_0/\Rep.R w' L [v0_0] r):=by
 unfold av_p at h
 refine AG func30 rfl rfl rfl fun _ cs0 hb0=>Af<|Ae rfl<|Aa<|Af<|Au .plain rfl (Does.makeMap (κ:=Int) (ν:=Int) (AF w)) fun Y2 t0 B0 Q2=>Ae rfl<|Aa<|Aj<|Af<|Ac rfl ?_
 have F0:=Be h0_0 B0
 have V2:a0.length <= 281474976710656:=AY F0
 refine Ab (Bh (xs:=a0) underlying41 rfl F0)<|Ac rfl<|Aa<|Ar ?_
 obtain ⟨X2,Y1,F1⟩:=ai h
 refine MX.lo (α:=Nat × (List (Int × Int))) (fun ⟨b0,d0⟩=>[(0,v0_0),(3,.map (some t0)),(9,v0_0),(10,vI ((a0.length:Nat):Int)),(11,vI ((b0:Nat):Int))]) (fun ⟨b0,d0⟩=>[.obj t0 (bU (d0:List (Int × Int)))]) (fun ⟨b0,d0⟩=>(b0,d0)) (0,([]:List (Int × Int))) Y1 B0 ?_
 rintro G2 ⟨b0,d0⟩ g3 Y0 u0 k1 h
 unfold av_l2 at h
 try dsimp only at h
 refine Af<|Ab (Bq (i:=b0) (j:=a0.length) rfl rfl)<|Aa<|Aj<|AN rfl h (fun M0 h=>?_) (fun M0 h=>?_)
 refine Ao<|Aj<|Ar<|Af<|Ac rfl<|bk h fun A0 u2 h=>?_
 obtain ⟨C2,K2,z1,K1,U0,g2,V1⟩:=Bm (Be h0_0 u0) u2
 have A1:U0 = [vI A0]:=g2; subst A1
 refine Ab (Bk 1 b0 rfl z1 rfl rfl K1)<|AA rfl (V1 0 _ rfl)<|Ae rfl<|Ae rfl<|Aa<|Ak<|Ac rfl<|Ac rfl<|Ac rfl<|RG.now .plain (Acts.mapUpdate (kv:=A0) (vv:=((b0:Nat):Int)) u0 .hd underlying106 underlying3 rfl rfl rfl rfl) fun c3 c1 p1=>Aa<|Ap<|Ak<|Ab (AW (i:=b0) (j:=1) rfl rfl (by omega))<|Ac rfl<|Aa<|Y0 (b0 + 1,cu d0 A0 ((b0:Nat):Int)) c1 (Tt k1 p1) h
 refine AV rfl ?_
 have h:=F1 _ h
 try dsimp only at h
 refine Af<|Ac rfl<|bk h fun c0 G0 h=>?_
 obtain ⟨D2,M2,B1,M1,V0,j2,W1⟩:=Bm (Be h0_0 u0) G0
 have C1:V0 = [vI c0]:=j2; subst C1
 refine Ab (Bk 1 0 rfl B1 rfl rfl M1)<|AA rfl (W1 0 _ rfl)<|Au .plain rfl (jA c0 (vI c0) u0 aq (e1 rfl)) fun d3 J0 y0 U2=>Ae rfl<|Aa<|Aj<|Af<|Ac rfl ?_
 obtain ⟨E2,P2,D1,P1,W0,Z1,Q1⟩:=Bm (Be h0_0 y0) G0
 have s1:W0 = [vI c0]:=Z1; subst s1
 refine Ab (Bk 1 0 rfl D1 rfl rfl P1)<|AA rfl (Q1 0 _ rfl)<|Ae rfl<|Aa<|Ar ?_
 obtain ⟨W2,X1,E1⟩:=ai h
 refine MX.lf (α:=Int × (List Int) × Value × (List Value)) (fun ⟨p0,k0,g0,q0⟩=>[(0,v0_0),(3,.map (some t0)),(6,g0),(7,vI p0)]) (fun ⟨p0,k0,g0,q0⟩=>[rr w 3 Int g0 k0.length q0,.obj t0 (bU (d0:List (Int × Int)))]) (fun ⟨p0,k0,g0,q0⟩ H0=>Cells H0 (bl [rr w 3 Int g0 k0.length q0,.obj t0 (bU (d0:List (Int × Int)))] ++ L) q0 k0) (fun ⟨p0,k0,g0,q0⟩=>(p0,k0)) (c0,([c0]:List Int),(vS J0 1),[vI c0]) X1 y0 (jC c0 (vI c0) y0 L rfl) ?_
 rintro F2 ⟨p0,k0,g0,q0⟩ H0 X0 s0 g1 E0 h
 unfold av_l1 at h
 try dsimp only at h
 refine Aj<|Af<|Ac rfl<|Ac rfl<|Ac rfl ?_
 have z0:=Be h0_0 s0
 refine Ab (Bh (xs:=a0) underlying41 rfl z0)<|Ab (FV.subI (i:=((a0.length:Nat):Int)) (j:=1) rfl rfl (by omega))<|bk h fun I0 p2 h=>?_
 obtain ⟨G1,q2⟩:=au p2
 obtain ⟨A2,I2,u1,I1,P0,b2,R1⟩:=Bm z0 q2
 have v1:P0 = [vI I0]:=b2; subst v1
 refine Ab (FV.idxAddr (m:=1) (i:=(((a0.length:Nat):Int) - 1).toNat) rfl rfl u1 rfl G1 I1)<|AA rfl (R1 0 _ rfl)<|Ab (FV.neq (i:=p0) (j:=I0) rfl rfl)<|Aa<|MX.ifn rfl h (fun K0 h=>?_) (fun K0 h=>?_)
 refine AV rfl ?_
 have h:=E1 _ h
 try dsimp only at h
 refine Af<|Ac rfl<|Ae rfl<|Aa<|Aq rfl ?_
 have v0:=Bt s0 .hd
 have R2:=Bu s0 .hd
 have c2:=Bv (α:=Int) (v:=g0) (xs:=k0) v0 L (Bf (α:=Int) s0 .hd E0 hL)
 refine AQ hb0 func30 rfl rfl ?_
 cases h
 exact ⟨v0.ag,fun p q=>⟨g0,rfl,v0.kd c2 q⟩⟩
 refine Ao<|Ar<|Af<|Ac rfl<|Ac rfl<|Ac rfl<|Ab (FV.lookup (kv:=p0) (z:=(0:Int)) s0 .t1 underlying106 underlying3 rfl rfl rfl rfl)<|bk h fun x2 k2 h=>Ab (Bp (i:=cU d0 p0 (0:Int)) (j:=1) rfl rfl k2)<|bk h fun j0 s2 h=>?_
 obtain ⟨H1,t2⟩:=au s2
 obtain ⟨B2,J2,x1,J1,Q0,d2,U1⟩:=Bm z0 t2
 have y1:Q0 = [vI j0]:=d2; subst y1
 refine Ab (Bk 1 (x2.toNat) rfl x1 rfl H1 J1)<|AA rfl (U1 0 _ rfl)<|Ae rfl<|Aa<|Ak<|Ac rfl<|Ac rfl<|Au .plain rfl (jA j0 (vI j0) s0 aq (e1 rfl)) fun Z2 H2 x0 C0=>bk h fun z2 v2 h=>Bz .plain rfl (Bw (α:=Int) (ys:=([j0]:List Int)) v2 x0 (fun _ _=>.t1) aq rfl rfl (Az E0 C0) (Src.row (α:=Int) x0 .hd (jC j0 (vI j0) x0 L rfl))) fun y2 b3 ⟨R0,Z0,j1,q1⟩=>Ae rfl<|Aa<|Ap ?_
 obtain ⟨b1,D0⟩:=AH Z0 .d1
 exact X0 (j0,z2,y2,R0) b1 (Tt g1 (Tt C0 (Tt j1 D0))) (Az q1 D0) h
theorem eqlI_62 (a0 a1 b0 b1:Int) (p:World):(do eqGuard .eql 62 (.tmp 0) (.tmp 0) (.agg #[vI a0,vI a1]) (.agg #[vI b0,vI b1]); binOp .eql 62 (.agg #[vI a0,vI a1]) (.agg #[vI b0,vI b1]):Sem Value).run Tryz.prog p = .ok (.bool (decide (a0 = b0/\a1 = b1))) p:=eqArr2 underlying62 underlying3 rfl rfl rfl a0 a1 b0 b1 _ _ p
def aj_l1 (_n:Nat) (a0:List (Int × Int)) (a1:Int × Int) (d0:Nat -> Option (Int ⊕ Unit)):Nat -> Option (Int ⊕ Unit)
  | b0=>(if b0 < a0.length then (a0[b0]?).bind fun c0=>(if a1.1 = c0.1/\a1.2 = c0.2 then some (.inl ((b0:Nat):Int)) else d0 (b0 + 1)) else some (.inr ()))
def aj_p (n:Nat) (a0:List (Int × Int)) (a1:Int × Int):Option Int:=
  thn (ac (aj_l1 n a0 a1) n 0) (fun _=>some (-1:Int))
theorem aj_c (n:Nat) {L w} (_hL:hl L w) {a0:List (Int × Int)} {v0_0:Value} (h0_0:Rep.R w L [v0_0] a0) (a1:Int × Int)  {r:Int} (h:aj_p n a0 a1 = some r) :
 Cl 31 #[v0_0,.agg #[vI a1.1,vI a1.2]] w (ah w fun _ u=>u = vI r):=by
 unfold aj_p at h
 refine AG func31 rfl rfl rfl fun _ cs0 hb0=>Af<|RG.bx (AF w) rfl rfl fun M0 k0 p0 I0=>Ae rfl<|Aa<|Aj<|Af<|Ac rfl ?_
 have s0:=Be h0_0 p0
 have J0:a0.length <= 281474976710656:=AY s0
 refine Ab (Bh (xs:=a0) underlying32 rfl s0)<|Ac rfl<|Aa<|Ar<|tn h fun K0 B0 q0=>MX.lo (α:=Nat) (fun b0=>[(0,v0_0),(3,vP k0),(7,vI ((a0.length:Nat):Int)),(8,vI ((b0:Nat):Int))]) (fun b0=>[.cells k0 [vI a1.1,vI a1.2] 62]) (fun b0=>b0) 0 B0 p0 ?_
 rintro F0 b0 P0 v0 g0 x0 h
 unfold aj_l1 at h
 try dsimp only at h
 refine Af<|Ab (Bq (i:=b0) (j:=a0.length) rfl rfl)<|Aa<|Aj<|AN rfl h (fun t0 h=>?_) (fun t0 h=>?_)
 refine Ao<|Aj<|Ar<|Af<|Ac rfl<|Ae rfl<|Aa<|Aj<|du 6 fun c0 d0=>Rx 0 32 c0 rfl d0 (AK rfl (g0.memA .hd))<|Rv 1 c0 rfl d0 (fun _=>Ag rfl)<|Rv 2 c0 rfl d0 (fun _=>Ag rfl)<|bk h fun j0 D0 h=>?_
 obtain ⟨E0,G0,y0,z0,H0,C0,A0⟩:=Bm (Be h0_0 g0) D0
 obtain rfl:=aU C0
 refine Rv 3 c0 rfl d0 (fun _=>Bk 2 b0 rfl y0 rfl rfl z0)<|Rx 4 32 c0 rfl d0 (AK rfl A0)<|Rv 5 c0 rfl d0 (fun _=>FV.eqlV (v:=.agg #[vI a1.1,vI a1.2]) (u:=.agg #[vI j0.1,vI j0.2]) rfl rfl (eqlI_62 a1.1 a1.2 j0.1 j0.2))<|AZ (dk c0)<|AN rfl h (fun u0 h=>?_) (fun u0 h=>?_)
 refine Af<|Ac rfl<|Ae rfl<|Aa ?_
 have h:=ao h q0
 refine Aq rfl<|AQ hb0 func31 rfl rfl ?_
 cases h
 exact g0.gv
 refine Ao<|Ap<|Ak<|Ab (AW (i:=b0) (j:=1) rfl rfl (by omega))<|Ac rfl<|Aa<|v0 (b0 + 1) g0 x0 h
 refine AV rfl ?_
 have h:=aI h q0
 try dsimp only at h
 refine Af<|Ae rfl<|Aa<|Aq rfl<|AQ hb0 func31 rfl rfl ?_
 cases h
 exact g0.gv
def bx_p (n:Nat) (a0:Int) (a1:Int):Option Bool:=
  (aV_p n a0).bind fun y1=>(if y1 = true then (aV_p n a1).bind fun y3=>(if y3 = true then some (decide (a0 < a1)) else some true) else some (decide (a0 < a1)))
theorem bx_c (n:Nat) {L w} (hL:hl L w) {a0:Int} {a1:Int}  {r:Bool} (h:bx_p n a0 a1 = some r) :
 Cl 86 #[vI a0,vI a1] w (ah w fun _ u=>u = .bool r):=by
 unfold bx_p at h
 have hS0:=AF w
 refine AG func86 rfl rfl rfl fun _ cs0 hb0=>Af<|Ae rfl<|Aa<|Af<|Ac rfl<|bk h fun y1 hy1 h=>BA (.bool y1) (bd 91) rfl (e1 rfl) (fun p q=>aV_c n (hS0.hL0 hL q)  hy1) rfl<|Ac rfl<|RG.ifb (s:=7) rfl h (fun c2 h=>?_) (fun c2 h=>?_)
 refine Al (Ag rfl)<|bk h fun y3 hy3 h=>RG.callq' (v:=.bool y3) (fst:=[]) (cap:=[]) (.yes rfl rfl) (bd 91) rfl (e1 rfl) (fun p q=>aV_c n (hS0.hL0 hL q)  hy3) rfl<|Al (FV.not rfl)<|Bd rfl rfl<|Ac rfl<|RG.ifnb (s:=12) rfl h (fun c4 h=>?_) (fun c4 h=>?_)
 refine Al (Ag rfl)<|Al (Ag rfl)<|Al (FV.lss (i:=a0) (j:=a1) rfl rfl)<|Bb rfl rfl<|Ae rfl<|Aa<|Aq rfl<|AQ hb0 func86 rfl rfl ?_
 cases h
 exact hS0.gv
 refine Ah<|Ah<|Ah<|Bd rfl rfl<|Ae rfl<|Aa<|Aq rfl<|AQ hb0 func86 rfl rfl ?_
 cases h
 exact hS0.gv
 refine Ah<|Ah<|Ah<|Bb rfl rfl<|Ac rfl<|Al (Ag rfl)<|Al (Ag rfl)<|Al (FV.lss (i:=a0) (j:=a1) rfl rfl)<|Bb rfl rfl<|Ae rfl<|Aa<|Aq rfl<|AQ hb0 func86 rfl rfl ?_
 cases h
 exact hS0.gv
def bv_p (n:Nat) (a0:UInt64):Option Int:=
  (aU_p n a0).bind fun y1=>some y1
theorem bv_c (n:Nat) {L w} (hL:hl L w) (a0:UInt64)  {r:Int} (h:bv_p n a0 = some r) :
 Cl 61 #[vU a0] w (ah w fun _ u=>u = vI r):=by
 unfold bv_p at h
 have hS0:=AF w
 refine AG func61 rfl rfl rfl fun _ cs0 hb0=>Af<|Ae rfl<|Aa<|Aj<|Bl rfl<|Ao<|Af<|Ac rfl<|bk h fun y1 hy1 h=>BA (vI y1) (bd 46) rfl (e1 rfl) (fun p q=>aU_c n (hS0.hL0 hL q) a0 hy1) rfl<|Ae rfl<|Aa<|Aq rfl<|AQ hb0 func61 rfl rfl ?_
 cases h
 exact hS0.gv
def ab_l1 (n:Nat) (g0:List Int) (a0:Tb) (q0:UInt64 × Nat × (List Int) -> Option (UInt64 × (List Int))):UInt64 × Nat × (List Int) -> Option (UInt64 × (List Int))
  | (k0,b0,d0)=>(if b0 < g0.length then (g0[b0]?).bind fun c0=>(aL c0).bind fun s0=>jn (fun t0=>q0 (k0 ||| (shlU (1:UInt64) s0),b0 + 1,t0)) (fun j0=>(if 0 < b0 then (g0[b0 - 1]?).bind fun p0=>(aj_p n a0.fh (min c0 p0,max c0 p0)).bind fun v0=>(app d0 ([v0]:List Int)).bind fun u0=>j0 u0 else j0 d0)) else some (k0,d0))
def ab_l2 (n:Nat) (d0:UInt64 × (List Int) -> Option (List Int)):UInt64 × (List Int) -> Option (List Int)
  | (b0,c0)=>(if b0 = (0:UInt64) then some c0 else (al_p n b0).bind fun j0=>(app c0 ([j0]:List Int)).bind fun g0=>d0 (b0 &&& (b0 - (1:UInt64)),g0))
def ab_l3 (_n:Nat) (a0:Tb) (g0:Int) (j0:UInt64 × Nat -> Option UInt64):UInt64 × Nat -> Option UInt64
  | (d0,c0)=>(if c0 < a0.fh.length then (a0.fh[c0]?).bind fun b0=>(if b0.1 = g0 then (chk (b0.1 + b0.2)).bind fun s0=>(chk (s0 - g0)).bind fun t0=>(aL t0).bind fun p0=>j0 (d0 ||| (shlU (1:UInt64) p0),c0 + 1) else jn (fun x0=>j0 (x0,c0 + 1)) (fun k0=>(if b0.2 = g0 then (chk (b0.1 + b0.2)).bind fun u0=>(chk (u0 - g0)).bind fun v0=>(aL v0).bind fun q0=>k0 (d0 ||| (shlU (1:UInt64) q0)) else k0 d0))) else some d0)
def ab_l4 (n:Nat) (u0:UInt64) (a0:Tb) (a1:UInt64) (q0:Int × (List Int) × UInt64 × Int -> Option ((((List Int) × Ta × Int) ⊕ ((List Int) × UInt64)) ⊕ ((List Int) × UInt64 × Int))):Int × (List Int) × UInt64 × Int -> Option ((((List Int) × Ta × Int) ⊕ ((List Int) × UInt64)) ⊕ ((List Int) × UInt64 × Int))
  | (p0,j0,d0,c0)=>(aL p0).bind fun s0=>(if ((shrU u0 s0) &&& (1:UInt64)) = (1:UInt64) then some (.inr (j0,d0,c0)) else (if c0 = 0 then some (.inl (.inl (([]:List Int),(⟨(0:UInt64)⟩:Ta),(9:Int)))) else (chk (c0 - 1)).bind fun t0=>Option.bind (ac (ab_l3 n a0 p0) n (0,0)) (fun v0=>Option.bind (ac (ab_l2 n) n (v0 &&& a1,([]:List Int))) (fun k0=>(az_p n (⟨d0⟩:Ta) ((k0.length:Nat):Int)).bind fun b0=>(if b0.2.2 = 0 then (idx k0 b0.1).bind fun g0=>(app j0 ([g0]:List Int)).bind fun x0=>q0 (g0,x0,b0.2.1.fc,t0) else some (.inl (.inl (([]:List Int),(⟨(0:UInt64)⟩:Ta),b0.2.2))))))))
def ab_l5 (n:Nat) (p0:Nat) (k0:Int × (List Int) -> Option (List Int)):Int × (List Int) -> Option (List Int)
  | (b0,c0)=>(if ((p0:Nat):Int) < b0 then (idx c0 b0).bind fun g0=>(chk (b0 - 1)).bind fun q0=>(idx c0 q0).bind fun u0=>(bx_p n g0 u0).bind fun y0=>(if y0 = true then (chk (b0 - 1)).bind fun d0=>(chk (b0 - 1)).bind fun s0=>(idx c0 s0).bind fun v0=>(put c0 ((b0.toNat:Nat):Int) v0).bind fun j0=>(idx j0 d0).bind fun _x6388=>(put j0 ((d0.toNat:Nat):Int) g0).bind fun x0=>(chk (b0 - 1)).bind fun t0=>k0 (t0,x0) else some c0) else some c0)
def ab_l6 (n:Nat) (k0:Nat) (j0:Nat) (d0:Int × (List Int) -> Option (List Int)):Int × (List Int) -> Option (List Int)
  | (b0,c0)=>(if b0 < ((k0:Nat):Int) then jn (fun q0=>(chk (b0 + 1)).bind fun p0=>d0 (p0,q0)) (fun g0=>Option.bind (ac (ab_l5 n j0) n (b0,c0)) (g0)) else some c0)
def ab_l7 (n:Nat) (p0:List Int) (k0:UInt64) (_J5140:Nat × Nat × Int × Bool × Bool -> Option ((List Int) × Ta × Int)):Nat × Nat × Int × Bool × Bool -> Option ((List Int) × Ta × Int)
  | (b0,c0,s0,d0,_q5134)=>(chk (((c0:Nat):Int) - ((b0:Nat):Int))).bind fun g0=>(if g0 <= 12 then (chk (((b0:Nat):Int) + 1)).bind fun j0=>Option.bind (ac (ab_l6 n c0 b0) n (j0,p0)) (fun q0=>some (q0,(⟨k0⟩:Ta),(0:Int))) else (if s0 = 0 then none else (if d0 = true then none else none)))
def ab_l8 (n:Nat) (a0:Tb) (a1:UInt64) (j0:UInt64 × Int × (List Int) × UInt64 × Int -> Option (((List Int) × Ta × Int) ⊕ ((List Int) × UInt64))):UInt64 × Int × (List Int) × UInt64 × Int -> Option (((List Int) × Ta × Int) ⊕ ((List Int) × UInt64))
  | (c0,b0,g0,d0,k0)=>(if b0 < a0.fN then (aL b0).bind fun p0=>(if ((shrU (a1 &&& ~~~c0) p0) &&& (1:UInt64)) = (0:UInt64) then (chk (b0 + 1)).bind fun q0=>j0 (c0,q0,g0,d0,k0) else thn (ac (ab_l4 n c0 a0 a1) n (b0,([b0]:List Int),d0,k0)) (fun (v0,t0,z0)=>(av_p n v0).bind fun y0=>Option.bind (ac (ab_l1 n y0 a0) n (c0,0,g0)) (fun (u0,x0)=>(chk (b0 + 1)).bind fun s0=>j0 (u0,s0,x0,t0,z0)))) else some (.inr (g0,d0)))
def ab_p (n:Nat) (a0:Tb) (a1:UInt64) (a2:Ta):Option ((List Int) × Ta × Int):=
  (aS_p n a0).bind fun c0=>(if c0 = 0 then (if a1 = (0:UInt64) then some (([]:List Int),(⟨(0:UInt64)⟩:Ta),(2:Int)) else (bo_p n a0 a1).bind fun g0=>(if g0 = true then (bq_p n a0 a1).bind fun j0=>(if j0.1 = true then thn (ac (ab_l8 n a0 a1) n (a1 &&& (-a1),0,([]:List Int),a2.fc,10000)) (fun (b0,d0)=>(bv_p n (ae ((b0.length:Nat):Int))).bind fun k0=>ac (ab_l7 n b0 d0) n (0,b0.length,k0,true,true)) else some (([]:List Int),(⟨(0:UInt64)⟩:Ta),(4:Int))) else some (([]:List Int),(⟨(0:UInt64)⟩:Ta),(2:Int)))) else some (([]:List Int),(⟨(0:UInt64)⟩:Ta),c0))
theorem ab_c (n:Nat) {L w} (hL:hl L w) (a0:Tb) {v0_1:Value} (h0_1:Rep.R w L [v0_1] a0.fh) (a1:UInt64) (a2:Ta) (hG0:Glob 0 tab0 w)  {r:(List Int) × Ta × Int} (h:ab_p n a0 a1 a2 = some r) :
 Cl 11 #[.agg #[vI a0.fN,v0_1],vU a1,.agg #[vU a2.fc]] w (ah w fun w' u=>∃ v0_0:Value,u = .tuple #[v0_0,.agg #[vU r.2.1.fc],vI r.2.2]/\Rep.R w' L [v0_0] r.1):=by
 unfold ab_p at h
 refine AG func11 rfl rfl rfl fun _ cs0 hb0=>Af<|RG.bx (AF w) rfl rfl fun w11 g0 K6 M03=>RG.bx K6 rfl rfl fun w16 b19 M6 P03=>Ae rfl<|RG.nl [vW 0] M6 fun w21 j0 v0 Q03=>Ae rfl<|Aa<|Aj<|Af<|Ab (AK rfl (v0.memA .t2))<|bk h fun u5 u01 h=>BA (vI u5) (bd 21) rfl (e1 rfl) (fun p q=>aS_c n (v0.hL0 hL q) a0 (v0.k0 h0_1 q) u01) rfl<|Ae rfl<|Aa<|Af<|Ac rfl<|Ab (FV.neq (i:=u5) (j:=0) rfl rfl)<|Aa<|MX.ifn rfl h (fun I5 h=>?_) (fun I5 h=>?_)
 refine Ao<|Aj<|Af<|Ac rfl<|Ab (FV.eqlU (a:=a1) (b:=(0:UInt64)) rfl rfl)<|Ac rfl<|Bn (s:=28) rfl h (fun J5 h=>?_) (fun J5 h=>?_)
 refine Ah<|Ah<|Ah<|Ah<|Bd rfl rfl<|Aa<|AS rfl<|Af<|Ab (AL (vs:=[]) (u:=.agg #[vW 0]) aj (fun p=>by kernel_rfl))<|Ae rfl<|AX [vW 0] v0 .hd (o1 rfl) fun w28 v2 R03=>Ae rfl<|Aa<|Aq rfl ?_
 have Y9:=Bo (α:=Int) v2 L
 refine Av hb0 func11 rfl (.cons (.tmp rfl) (.cons (.many (cs:=[vW 0]) rfl rfl (v2.memA .hd)) (.cons (.tmp rfl) .nil))) rfl ?_
 cases h
 exact ⟨v2.ag,fun p q=>⟨vN,rfl,v2.kd Y9 q⟩⟩
 refine Al (AK rfl (v0.memA .t2))<|Al (Ag rfl)<|bk h fun y32 v01 h=>RG.callq' (v:=.bool y32) (fst:=[]) (cap:=[]) (.yes rfl rfl) (bd 22) rfl (e2 rfl rfl) (fun p q=>bo_c n (v0.hL0 hL q) a0 (v0.k0 h0_1 q) a1 v01) rfl<|Al (FV.not rfl)<|Bb rfl rfl<|Aa<|MX.ifnb rfl h (fun P5 h=>?_) (fun P5 h=>?_)
 refine Ao<|Aj<|Af<|Ab (AK rfl (v0.memA .t2))<|Ac rfl<|bk h fun v5 x01 h=>BA (.tuple #[.bool v5.1,vI v5.2]) (bd 29) rfl (e2 rfl rfl) (fun p q=>bq_c n (v0.hL0 hL q) a0 (v0.k0 h0_1 q) a1 (hG0.keep (v0.ag.trans q)) x01) rfl<|Ac rfl<|Ab (Am rfl rfl)<|Ab (Am rfl rfl)<|Ae rfl<|Ae rfl<|Aa<|Af<|Ac rfl<|Ab (FV.not rfl)<|Aa<|MX.ifnb rfl h (fun Q5 h=>?_) (fun Q5 h=>?_)
 refine Ao<|Af<|Ab (AK rfl (v0.memA .t1))<|Ab (AK rfl (v0.memA .t2))<|Ac rfl ?_
 obtain ⟨A36,c37,P00,_⟩:=Rep.sl (Be h0_1 v0)
 refine Ab (AL (vs:=[.agg #[vU a2.fc],.agg #[vI a0.fN,v0_1],vU a1,vI 10000]) (u:=.agg #[vU a2.fc,vI a0.fN,v0_1,vU a1,vI 10000]) (e4 rfl rfl rfl rfl) (fun p=>by rw [P00]; try kernel_rfl))<|RG.bx v0 rfl rfl fun w41 b0 R2 W03=>Ae rfl<|Aa<|Af<|Ac rfl<|Ac rfl<|Ab (FV.negU (a:=a1) rfl)<|Ab (FV.andU (a:=a1) (b:=-a1) rfl rfl)<|Ae rfl<|Aa<|Aj<|Af<|AT 0 rfl<|AA rfl ((R2.memA .t3) 0 _ rfl)<|Ac rfl<|Aa<|Ar ?_
 have M3:=R2.nilRow 3 (Rep.size Int)
 have X03:=St.nilRowT R2 3 (Rep.size Int)
 obtain ⟨P6,C7⟩:=AH M3 (.a0 (.a0 (.a0 .d1)))
 refine tn h fun D04 P9 s3=>MX.lf (α:=UInt64 × Int × (List Int) × UInt64 × Int × Value × (List Value)) (fun ⟨A0,q0,d0,u0,C0,c0,y0⟩=>[(1,vU a1),(3,vP g0),(6,c0),(7,vP j0),(12,vP b0),(13,vU A0),(54,vI a0.fN),(55,vI q0)]) (fun ⟨A0,q0,d0,u0,C0,c0,y0⟩=>[rr w 3 Int c0 d0.length y0,.cells b0 [vU u0,vI a0.fN,v0_1,vU a1,vI C0] 69,.cells j0 [vW 0] 30,.cells g0 [vI a0.fN,v0_1] 34]) (fun ⟨A0,q0,d0,u0,C0,c0,y0⟩ c5=>Cells c5 (bl [rr w 3 Int c0 d0.length y0,.cells b0 [vU u0,vI a0.fN,v0_1,vU a1,vI C0] 69,.cells j0 [vW 0] 30,.cells g0 [vI a0.fN,v0_1] 34] ++ L) y0 d0) (fun ⟨A0,q0,d0,u0,C0,c0,y0⟩=>(A0,q0,d0,u0,C0)) (a1 &&& (-a1),0,([]:List Int),a2.fc,10000,vN,[]) P9 P6 (Az (AE (cs:=[]) (xs:=([]:List Int)) M3 L (AJ _ _)) C7) ?_
 rintro z02 ⟨A0,q0,d0,u0,C0,c0,y0⟩ c5 A3 U1 P3 d3 h
 unfold ab_l8 at h
 try dsimp only at h
 refine Af<|Ab (FV.lss (i:=q0) (j:=a0.fN) rfl rfl)<|Aa<|Aj<|AN rfl h (fun K5 h=>?_) (fun K5 h=>?_)
 refine Ao<|Aj<|Ar<|Af<|Ac rfl<|Ae rfl<|Aa<|Aj<|Af<|Ac rfl<|Ac rfl<|Ab (FV.andNotU (a:=a1) (b:=A0) rfl rfl)<|Ac rfl<|bk h fun V4 A9 h=>Ab (FV.shrI (a:=a1 &&& ~~~A0) (i:=q0) rfl rfl A9)<|Ab (FV.andU (a:=shrU (a1 &&& ~~~A0) V4) (b:=(1:UInt64)) rfl rfl)<|Ab (FV.eqlU (a:=(shrU (a1 &&& ~~~A0) V4) &&& (1:UInt64)) (b:=(0:UInt64)) rfl rfl)<|Aa<|AN rfl h (fun M5 h=>?_) (fun M5 h=>?_)
 refine AV rfl<|Ak<|bk h fun F01 y00 h=>Ab (Bp (i:=q0) (j:=1) rfl rfl y00)<|Ac rfl<|Aa<|A3 (A0,F01,d0,u0,C0,c0,y0) U1 P3 d3 h
 refine Ao<|Af<|Ac rfl<|Ac rfl<|Ac rfl<|RG.enterP (fst:=[]) (cap:=[]) (vs:=[vP b0,vI q0,vU A0]) .plain (bd 24) func24 rfl rfl rfl rfl (e3 rfl rfl rfl) rfl fun x03 c3 q04=>Af<|Ae rfl<|Ae rfl<|Aa<|MX.scope<|Af<|Ac rfl<|Au .plain rfl (jA q0 (vI q0) U1 aq (e1 rfl)) fun U04 C5 F3 D7=>Ae rfl<|Aa<|Af<|Ac rfl<|Ab (FV.makeFunc (vs:=[vP b0]) (us:=[]) (e1 rfl) aj)<|Ae rfl<|Aa<|Aj<|MX.label<|Aj<|Af<|Ac rfl<|Ae rfl<|Aa<|Ar<|tn h fun E04 Q9 u3=>MX.lf (α:=Int × (List Int) × UInt64 × Int × Value × (List Value)) (fun ⟨D0,P0,s0,H0,M0,Y0⟩=>[(0,vP b0),(2,vU A0),(8,M0),(9,.func (.func 52) #[vP b0] #[]),(10,vI D0)]) (fun ⟨D0,P0,s0,H0,M0,Y0⟩=>[rr w 3 Int M0 P0.length Y0,rr w 3 Int c0 d0.length y0,.cells b0 [vU s0,vI a0.fN,v0_1,vU a1,vI H0] 69,.cells j0 [vW 0] 30,.cells g0 [vI a0.fN,v0_1] 34]) (fun ⟨D0,P0,s0,H0,M0,Y0⟩ d5=>Cells d5 (bl [rr w 3 Int M0 P0.length Y0,rr w 3 Int c0 d0.length y0,.cells b0 [vU s0,vI a0.fN,v0_1,vU a1,vI H0] 69,.cells j0 [vW 0] 30,.cells g0 [vI a0.fN,v0_1] 34] ++ L) Y0 P0) (fun ⟨D0,P0,s0,H0,M0,Y0⟩=>(D0,P0,s0,H0)) (q0,([q0]:List Int),u0,C0,(vS C5 1),[vI q0]) Q9 F3 (jC q0 (vI q0) F3 L rfl) ?_
 rintro A02 ⟨D0,P0,s0,H0,M0,Y0⟩ d5 F6 Q1 Q3 u4 h
 unfold ab_l4 at h
 try dsimp only at h
 refine Ar<|Aj<|Af<|Ac rfl<|Ac rfl<|bk h fun W4 B9 h=>Ab (FV.shrI (a:=A0) (i:=D0) rfl rfl B9)<|Ab (FV.andU (a:=shrU A0 W4) (b:=(1:UInt64)) rfl rfl)<|Ab (FV.eqlU (a:=(shrU A0 W4) &&& (1:UInt64)) (b:=(1:UInt64)) rfl rfl)<|Aa<|AN rfl h (fun R5 h=>?_) (fun R5 h=>?_)
 refine AV rfl ?_
 have h:=aI h u3
 try dsimp only at h
 refine Af<|Ac rfl<|Ae rfl<|Ae rfl<|Aa<|Aq rfl<|Av (u:=.tuple #[M0,vI 0]) c3 func24 rfl (.cons (.tmp rfl) (.cons (.tmp rfl) .nil)) rfl<|Ac rfl<|Ab (Am rfl rfl)<|Ab (Am rfl rfl)<|Ae rfl<|Ae rfl<|Aa<|Aj<|Af<|Ac rfl<|Ab (FV.neqN (i:=0) (j:=0) rfl rfl)<|Aa<|Bl rfl<|Ao<|Af<|Ac rfl ?_
 have P2:=Bt Q1 .hd
 have E7:=Bu Q1 .hd
 refine bk h fun q2 y01 h=>jE (bd 30) rfl (e1 rfl) (fun p q=>av_c n (P2.hL hL q) (Ax (Bv (α:=Int) (v:=M0) (xs:=P0) P2 L (Bf (α:=Int) Q1 .hd u4 hL)) q) y01) rfl fun V04 K2 x8 ⟨K04,hu_,x3⟩=>?_
 subst hu_
 obtain ⟨Q6,F7⟩:=P2.agr x8
 refine Ae rfl<|Aa<|Af<|Ac rfl ?_
 have d04:q2.length <= 281474976710656:=AY x3
 refine Ab (Bh (xs:=q2) underlying41 rfl x3)<|Ac rfl<|Aa<|Ar ?_
 have P4:=Tt D7 (Tt Q3 (Tt E7 F7))
 obtain ⟨F04,R9,q9⟩:=ai h
 refine MX.lf (α:=UInt64 × Nat × (List Int) × Value × (List Value)) (fun ⟨q1,B0,u1,C1,z1⟩=>[(1,vU a1),(3,vP g0),(6,C1),(7,vP j0),(12,vP b0),(13,vU q1),(54,vI a0.fN),(55,vI q0),(15,K2),(78,K2),(79,vI ((q2.length:Nat):Int)),(80,vI ((B0:Nat):Int))]) (fun ⟨q1,B0,u1,C1,z1⟩=>[rr w 3 Int C1 u1.length z1,.cells b0 [vU s0,vI a0.fN,v0_1,vU a1,vI H0] 69,.cells j0 [vW 0] 30,.cells g0 [vI a0.fN,v0_1] 34]) (fun ⟨q1,B0,u1,C1,z1⟩ g5=>Cells g5 (bl [rr w 3 Int C1 u1.length z1,.cells b0 [vU s0,vI a0.fN,v0_1,vU a1,vI H0] 69,.cells j0 [vW 0] 30,.cells g0 [vI a0.fN,v0_1] 34] ++ L) z1 u1) (fun ⟨q1,B0,u1,C1,z1⟩=>(q1,B0,u1)) (A0,0,d0,c0,y0) R9 Q6 (Az d3 P4) ?_
 rintro B02 ⟨q1,B0,u1,C1,z1⟩ g5 G6 x2 Z2 g3 h
 unfold ab_l1 at h
 try dsimp only at h
 refine Af<|Ab (Bq (i:=B0) (j:=q2.length) rfl rfl)<|Aa<|Aj<|AN rfl h (fun U5 h=>?_) (fun U5 h=>?_)
 refine Ao<|Aj<|Ar<|Af<|Ac rfl<|bk h fun V0 Q00 h=>?_
 have I4:=Aw x3 Z2
 obtain ⟨t02,X02,R8,C9,s6,Z9,H9⟩:=Bm I4 Q00
 have U8:s6 = [vI V0]:=Z9; subst U8
 refine Ab (Bk 1 B0 rfl R8 rfl rfl C9)<|AA rfl (H9 0 _ rfl)<|Ae rfl<|Ae rfl<|Aa<|Af<|Ac rfl<|Ac rfl<|bk h fun y3 D9 h=>Ab (FV.shlI (a:=(1:UInt64)) (i:=V0) rfl rfl D9)<|Ab (FV.orU (a:=q1) (b:=shlU (1:UInt64) y3) rfl rfl)<|Ae rfl<|Aa<|Af<|Ac rfl<|Ab (FV.gtrN (i:=B0) (j:=0) rfl rfl)<|Aa<|MX.jf (α:=(List Int) × Value × (List Value)) (fun ⟨D1,J1,G1⟩=>[(1,vU a1),(3,vP g0),(6,J1),(7,vP j0),(12,vP b0),(13,vW ((q1 ||| (shlU (1:UInt64) y3)).toNat:Int)),(54,vI a0.fN),(55,vI q0),(15,K2),(78,K2),(79,vI ((q2.length:Nat):Int)),(80,vI ((B0:Nat):Int))]) (fun ⟨D1,J1,G1⟩=>[rr w 3 Int J1 D1.length G1,.cells b0 [vU s0,vI a0.fN,v0_1,vU a1,vI H0] 69,.cells j0 [vW 0] 30,.cells g0 [vI a0.fN,v0_1] 34]) (fun ⟨D1,J1,G1⟩ j5=>Cells j5 (bl [rr w 3 Int J1 D1.length G1,.cells b0 [vU s0,vI a0.fN,v0_1,vU a1,vI H0] 69,.cells j0 [vW 0] 30,.cells g0 [vI a0.fN,v0_1] 34] ++ L) G1 D1) (fun ⟨D1,J1,G1⟩=>D1) x2 h ?_ ?_
 rintro ⟨D1,J1,G1⟩ j5 R6 G7 H8 h
 try dsimp only at h
 refine Ap<|Ak<|Ab (AW (i:=B0) (j:=1) rfl rfl (by omega))<|Ac rfl<|Aa<|G6 (q1 ||| (shlU (1:UInt64) y3),B0 + 1,D1,J1,G1) R6 (Tt Z2 G7) H8 h
 intro C02 B3 h
 try dsimp only at h
 refine AN rfl h (fun V5 h=>?_) (fun V5 h=>?_)
 refine Aj<|du 16 fun x0 E0=>Rv 0 x0 rfl E0 (fun _=>Ag rfl)<|Rv 1 x0 rfl E0 (fun _=>Ag rfl)<|Rv 2 x0 rfl E0 (fun _=>Ag rfl)<|Rv 3 x0 rfl E0 (fun _=>FV.subN (i:=B0) (j:=1) rfl rfl (by omega) (by omega))<|bk h fun g1 R00 h=>?_
 obtain ⟨u02,Y02,z4,D4,u6,b00,J4⟩:=Bm I4 R00
 have V8:u6 = [vI g1]:=b00; subst V8
 refine Rv 4 x0 rfl E0 (fun _=>Bk 1 (B0 - 1) rfl z4 rfl rfl D4)<|Rx 5 81984 x0 rfl E0 (AM rfl (J4 0 _ rfl))<|Rv 6 x0 rfl E0 (fun _=>FV.min2 (i:=V0) (j:=g1) rfl rfl)<|Rv 7 x0 rfl E0 (fun _=>Ag rfl)<|Rv 8 x0 rfl E0 (fun _=>Ag rfl)<|Rv 9 x0 rfl E0 (fun _=>Ag rfl)<|Rv 10 x0 rfl E0 (fun _=>FV.subN (i:=B0) (j:=1) rfl rfl (by omega) (by omega))<|Rv 11 x0 rfl E0 (fun _=>Bk 1 (B0 - 1) rfl z4 rfl rfl D4)<|Rx 12 90112 x0 rfl E0 (AM rfl (J4 0 _ rfl))<|Rv 13 x0 rfl E0 (fun _=>FV.max2 (i:=V0) (j:=g1) rfl rfl)<|Rv 14 x0 rfl E0 (fun _=>AL (vs:=[vI (min V0 g1),vI (max V0 g1)]) (u:=.agg #[vI (min V0 g1),vI (max V0 g1)]) (e2 rfl rfl) (fun p=>by kernel_rfl))<|RD.nu 15 65535 x0 rfl .plain rfl (AC [vI 0,vI 0] x2) fun W04 M02 U6 H7=>RD.nw 16 131071 x0 rfl rfl .plain (AP (news:=[vI (min V0 g1),vI (max V0 g1)]) U6 .hd rfl rfl rfl rfl rfl rfl (ck rfl)) fun X04 Z1 I7=>AZ (dk x0)<|Ak<|Ac rfl<|AT 1 rfl<|AA rfl ((Z1.memA .t4) 1 _ rfl)<|Ab (AK rfl (Z1.memA .hd))<|bk h fun M1 z01 h=>BA (vI M1) (bd 31) rfl (e2 rfl rfl) (fun p q=>aj_c n (Z1.hL0 hL q) (Z1.k0 h0_1 q) (min V0 g1,max V0 g1) z01) rfl<|Au .plain rfl (jA M1 (vI M1) Z1 aq (e1 rfl)) fun Y04 P02 Q2 J7=>bk h fun d02 k01 h=>?_
 have Q4:=Tt H7 (Tt I7 J7)
 refine Bz .plain rfl (Bw (α:=Int) (ys:=([M1]:List Int)) k01 Q2 (fun _ _=>.t2) aq rfl rfl (Az g3 Q4) (Src.row (α:=Int) Q2 .hd (jC M1 (vI M1) Q2 L rfl))) fun W01 Z04 ⟨v6,V6,K7,I8⟩=>Ae rfl<|Aa ?_
 obtain ⟨W6,R3⟩:=AH V6 .d2
 exact B3 (d02,W01,v6) W6 (Tt Q4 (Tt K7 R3)) (Az I8 R3) h
 refine Ao<|B3 (u1,C1,z1) x2 (Bs _ _) g3 h
 refine AV rfl ?_
 have h:=q9 _ h
 try dsimp only at h
 refine Ap<|Ak<|bk h fun G01 z00 h=>Ab (Bp (i:=q0) (j:=1) rfl rfl z00)<|Ac rfl<|Aa<|A3 (q1,G01,u1,s0,H0,C1,z1) x2 (Tt P3 (Tt P4 Z2)) g3 h
 refine Ao<|Aj<|Af<|Ac rfl<|Ab (Bx rfl)<|AT 4 rfl<|AA rfl ((Q1.memA .t2) 4 _ rfl)<|Ab (Br (i:=H0) (j:=0) rfl rfl)<|Aa<|AN rfl h (fun W5 h=>?_) (fun W5 h=>?_)
 refine Af<|Ae rfl<|Ae rfl<|Aa ?_
 have h:=ao h u3
 refine Aq rfl<|Av (u:=.tuple #[vN,vI 9]) c3 func24 rfl (.cons (.tmp rfl) (.cons (.tmp rfl) .nil)) rfl<|Ac rfl<|Ab (Am rfl rfl)<|Ab (Am rfl rfl)<|Ae rfl<|Ae rfl<|Aa<|Aj<|Af<|Ac rfl<|Ab (FV.neqN (i:=9) (j:=0) rfl rfl)<|Aa<|AS rfl<|Af<|Ab (AL (vs:=[]) (u:=.agg #[vW 0]) aj (fun p=>by kernel_rfl))<|Ac rfl<|Ae rfl<|AX [vW 0] Q1 .t3 (o1 rfl) fun b05 y2 U03=>Ae rfl<|Aa ?_
 have h:=ao h s3
 refine Aq rfl ?_
 have c00:=Bo (α:=Int) y2 L
 refine Av hb0 func11 rfl (.cons (.tmp rfl) (.cons (.many (cs:=[vW 0]) rfl rfl (y2.memA .t3)) (.cons (.tmp rfl) .nil))) rfl ?_
 cases h
 exact ⟨y2.ag,fun p q=>⟨vN,rfl,y2.kd c00 q⟩⟩
 refine Ao<|Af<|Ac rfl<|Ab (Bx rfl)<|AT 4 rfl<|AA rfl ((Q1.memA .t2) 4 _ rfl)<|bk h fun B1 A00 h=>Ab (FV.subc (i:=H0) (j:=1) rfl rfl A00)<|Ab (Bx rfl)<|AT 4 rfl<|RG.now .plain (Acts.store (j:=4) (old:=[vU s0,vI a0.fN,v0_1,vU a1,vI H0]) (news:=[vI B1]) (new' :=[vU s0,vI a0.fN,v0_1,vU a1,vI B1]) Q1 .t2 rfl rfl rfl rfl rfl rfl (o1 rfl) rfl) fun c05 X6 M7=>Aa<|Af<|Ac rfl<|Ac rfl<|RG.enterP (fst:=[]) (cap:=[]) (vs:=[vP b0,vI D0]) .plain (bd 55) func55 rfl rfl rfl rfl (e2 rfl rfl) rfl fun y03 y8 s04=>Af<|RG.bx X6 rfl rfl fun d05 W0 Y6 P7=>RG.bx Y6 rfl rfl fun g05 X0 Z6 Q7=>Ae rfl<|Aa<|Af<|Ab (FV.makeFunc (vs:=[]) (us:=[vP W0,vP X0]) aj (e2 rfl rfl))<|Ae rfl<|Aa<|Aq rfl<|Av (u:=.func (.func 71) #[] #[vP W0,vP X0]) y8 func55 rfl (.cons (.tmp rfl) .nil) rfl<|RG.enterP (fst:=[]) (cap:=[]) (vs:=[.func (.func 71) #[] #[vP W0,vP X0]]) .plain (bd 54) func54 rfl rfl rfl rfl (e1 rfl) rfl fun z03 z8 t04=>Af<|Ae rfl<|Aa<|Af<|Ac rfl<|RG.enterP (fst:=[]) (cap:=[]) (vs:=[vN,.func (.func 71) #[] #[vP W0,vP X0]]) .plain (bd 70) func70 rfl rfl rfl rfl (e2 rfl rfl) rfl fun A03 A8 u04=>Af<|RG.bx Z6 rfl rfl fun j05 u2 G3 R7=>Ae rfl<|Aa<|Aj<|Af<|Ac rfl<|Aa ?_
 refine Ar ?_
 have H3:=G3.nilRow 3 (Rep.size Int)
 have U7:=St.nilRowT G3 3 (Rep.size Int)
 have J8:=AE (cs:=[]) (xs:=([]:List Int)) H3 L (AJ _ _)
 refine MX.rangeP (lb:=[vP W0,vP X0]) rfl H3 rfl (bd 71) func71 rfl rfl rfl fun k05 R1 s2 J2 B03 z2 U3 E01 B8 v04=>Af<|Ae rfl<|Aa<|Aj<|Af<|AA rfl ((z2.memA .t5) 0 _ rfl)<|Ab (Bx rfl)<|AT 1 rfl<|AT 1 rfl<|AA rfl ((aM (z2.memA .t8) 1) 1 _ rfl) ?_
 have K4:=Be h0_1 z2
 have g04:a0.fh.length <= 281474976710656:=AY K4
 refine Ab (Bh (xs:=a0.fh) underlying32 rfl K4)<|Ac rfl<|Aa<|Ar ?_
 obtain ⟨G04,U9,s9⟩:=ai h
 refine MX.lo (α:=UInt64 × Nat) (fun ⟨U0,Q0⟩=>[(0,.func (.yield R1) #[] #[]),(1,vP W0),(2,vP X0),(4,vU U0),(11,v0_1),(12,vI ((a0.fh.length:Nat):Int)),(13,vI ((Q0:Nat):Int))]) (fun ⟨U0,Q0⟩=>[.obj R1 (lpO J2 .ready none),.obj s2 (.deferred (some [])),rr w 3 Int vN (([]:List Int).length) [],.cells u2 [vN] 41,.cells X0 [vI D0] 3,.cells W0 [vP b0] 67,rr w 3 Int M0 P0.length Y0,rr w 3 Int c0 d0.length y0,.cells b0 [vU s0,vI a0.fN,v0_1,vU a1,vI B1] 69,.cells j0 [vW 0] 30,.cells g0 [vI a0.fN,v0_1] 34]) (fun ⟨U0,Q0⟩=>(U0,Q0)) (0,0) U9 z2 ?_
 rintro D02 ⟨U0,Q0⟩ Q05 C3 b2 H2 h
 unfold ab_l3 at h
 try dsimp only at h
 refine Af<|Ab (Bq (i:=Q0) (j:=a0.fh.length) rfl rfl)<|Aa<|Aj<|AN rfl h (fun X5 h=>?_) (fun X5 h=>?_)
 refine Ao<|Aj<|Ar<|Af<|bk h fun K1 U00 h=>?_
 obtain ⟨v02,Z02,W8,E9,C03,d00,I9⟩:=Bm (Be h0_1 b2) U00
 obtain rfl:=aU d00
 refine Ab (Bk 2 Q0 rfl W8 rfl rfl E9)<|Ab (AK rfl I9)<|RG.nl [vI 0,vI 0] b2 fun p05 Q02 b7 V3=>AX [vI K1.1,vI K1.2] b7 .hd (ck rfl) fun q05 J0 W3=>Aa<|Af<|Ab (AB (m:=1) (k:=0) (len:=2) rfl rfl rfl rfl (by omega))<|AA rfl ((J0.memA .hd) 0 _ rfl)<|AA rfl ((J0.memA .t5) 0 _ rfl)<|Ab (Br (i:=K1.1) (j:=D0) rfl rfl)<|Ac rfl<|Bn (s:=21) rfl h (fun Y5 h=>?_) (fun Y5 h=>?_)
 refine Ah<|Ah<|Ah<|Ah<|Bd rfl rfl<|Aa<|AS rfl<|Ak<|Ac rfl<|Ab (AB (m:=1) (k:=0) (len:=2) rfl rfl rfl rfl (by omega))<|AA rfl ((J0.memA .hd) 0 _ rfl)<|Ab (AB (m:=1) (k:=1) (len:=2) rfl rfl rfl rfl (by omega))<|AA rfl ((J0.memA .hd) 1 _ rfl)<|bk h fun H01 B00 h=>Ab (Bp (i:=K1.1) (j:=K1.2) rfl rfl B00)<|AA rfl ((J0.memA .t5) 0 _ rfl)<|bk h fun I01 C00 h=>Ab (FV.subc (i:=H01) (j:=D0) rfl rfl C00)<|bk h fun X4 F9 h=>Ab (FV.shlI (a:=(1:UInt64)) (i:=I01) rfl rfl F9)<|Ab (FV.orU (a:=U0) (b:=shlU (1:UInt64) X4) rfl rfl)<|Ae rfl<|Aa<|Ap<|Ak<|Ab (AW (i:=Q0) (j:=1) rfl rfl (by omega))<|Ac rfl<|Aa ?_
 obtain ⟨c7,V7⟩:=AH J0 .d1
 exact C3 (U0 ||| (shlU (1:UInt64) X4),Q0 + 1) c7 (Tt H2 (Tt V3 (Tt W3 V7))) h
 refine Al (AB (m:=1) (k:=1) (len:=2) rfl rfl rfl rfl (by omega))<|Al (AM rfl ((J0.memA .hd) 1 _ rfl))<|Al (AM rfl ((J0.memA .t5) 0 _ rfl))<|Al (Br (i:=K1.2) (j:=D0) rfl rfl)<|Bb rfl rfl<|Aa<|MX.jo (α:=UInt64) (fun X1=>[(0,.func (.yield R1) #[] #[]),(1,vP W0),(2,vP X0),(4,vU X1),(11,v0_1),(12,vI ((a0.fh.length:Nat):Int)),(13,vI ((Q0:Nat):Int))]) (fun X1=>[.obj R1 (lpO J2 .ready none),.obj s2 (.deferred (some [])),rr w 3 Int vN (([]:List Int).length) [],.cells u2 [vN] 41,.cells X0 [vI D0] 3,.cells W0 [vP b0] 67,rr w 3 Int M0 P0.length Y0,rr w 3 Int c0 d0.length y0,.cells b0 [vU s0,vI a0.fN,v0_1,vU a1,vI B1] 69,.cells j0 [vW 0] 30,.cells g0 [vI a0.fN,v0_1] 34]) (fun X1=>X1) J0 h ?_ ?_
 rintro X1 R05 d7 W7 h
 try dsimp only at h
 refine Ap<|Ak<|Ab (AW (i:=Q0) (j:=1) rfl rfl (by omega))<|Ac rfl<|Aa<|C3 (X1,Q0 + 1) d7 (Tt H2 (Tt V3 (Tt W3 W7))) h
 intro E02 D3 h
 try dsimp only at h
 refine AN rfl h (fun Z5 h=>?_) (fun Z5 h=>?_)
 refine Ak<|Ac rfl<|Ab (AB (m:=1) (k:=0) (len:=2) rfl rfl rfl rfl (by omega))<|AA rfl ((J0.memA .hd) 0 _ rfl)<|Ab (AB (m:=1) (k:=1) (len:=2) rfl rfl rfl rfl (by omega))<|AA rfl ((J0.memA .hd) 1 _ rfl)<|bk h fun J01 D00 h=>Ab (Bp (i:=K1.1) (j:=K1.2) rfl rfl D00)<|AA rfl ((J0.memA .t5) 0 _ rfl)<|bk h fun K01 E00 h=>Ab (FV.subc (i:=J01) (j:=D0) rfl rfl E00)<|bk h fun Y4 G9 h=>Ab (FV.shlI (a:=(1:UInt64)) (i:=K01) rfl rfl G9)<|Ab (FV.orU (a:=U0) (b:=shlU (1:UInt64) Y4) rfl rfl)<|Ae rfl<|Aa ?_
 obtain ⟨g7,X7⟩:=AH J0 .d1
 exact D3 (U0 ||| (shlU (1:UInt64) Y4)) g7 X7 h
 refine Ao ?_
 obtain ⟨j7,Y7⟩:=AH J0 .d1
 exact D3 U0 j7 Y7 h
 refine AV rfl ?_
 have h:=s9 _ h
 try dsimp only at h
 refine Af<|Ac rfl<|AA rfl ((b2.memA .t5) 0 _ rfl)<|Ab (Bx rfl)<|AT 3 rfl<|AA rfl ((b2.memA .t8) 3 _ rfl)<|Ab (FV.andU (a:=U0) (b:=a1) rfl rfl)<|Ae rfl<|Aa<|Ar ?_
 obtain ⟨H04,V9,t9⟩:=ai h
 refine MX.lf (α:=UInt64 × (List Int) × Value × (List Value)) (fun ⟨K0,v1,b1,P1⟩=>[(0,.func (.yield R1) #[] #[]),(4,vU K0)]) (fun ⟨K0,v1,b1,P1⟩=>[.obj R1 (lpO J2 .ready none),.obj s2 (.deferred (some [])),rr w 3 Int b1 v1.length P1,.cells u2 [b1] 41,.cells X0 [vI D0] 3,.cells W0 [vP b0] 67,rr w 3 Int M0 P0.length Y0,rr w 3 Int c0 d0.length y0,.cells b0 [vU s0,vI a0.fN,v0_1,vU a1,vI B1] 69,.cells j0 [vW 0] 30,.cells g0 [vI a0.fN,v0_1] 34]) (fun ⟨K0,v1,b1,P1⟩ k5=>Cells k5 (bl [.obj R1 (lpO J2 .ready none),.obj s2 (.deferred (some [])),rr w 3 Int b1 v1.length P1,.cells u2 [b1] 41,.cells X0 [vI D0] 3,.cells W0 [vP b0] 67,rr w 3 Int M0 P0.length Y0,rr w 3 Int c0 d0.length y0,.cells b0 [vU s0,vI a0.fN,v0_1,vU a1,vI B1] 69,.cells j0 [vW 0] 30,.cells g0 [vI a0.fN,v0_1] 34] ++ L) P1 v1) (fun ⟨K0,v1,b1,P1⟩=>(K0,v1)) (U0 &&& a1,([]:List Int),vN,[]) V9 b2 (Az J8 (Tt U3 H2)) ?_
 rintro F02 ⟨K0,v1,b1,P1⟩ k5 H6 c2 X3 v4 h
 unfold ab_l2 at h
 try dsimp only at h
 refine Aj<|Af<|Ac rfl<|Ab (FV.neqU (a:=K0) (b:=(0:UInt64)) rfl rfl)<|Aa<|MX.ifn rfl h (fun b6 h=>?_) (fun b6 h=>?_)
 refine AV rfl ?_
 have h:=t9 _ h
 try dsimp only at h
 refine MX.fin rfl<|Av (u:=.tuple #[]) B8 func71 rfl .nil rfl<|MX.endRange0 c2 .hd (by intro h9; cases h9) fun t05 k7 Y3=>?_
 obtain ⟨I3,Z3⟩:=AH k7 .d1
 refine Ap<|Af<|AA rfl ((I3.memA .t2) 0 _ rfl)<|Ae rfl<|Aa<|Aq rfl<|RT.take I3 .hd fun u05 p7 b4=>?_
 obtain ⟨g2,c4⟩:=AH p7 .d1
 refine Av (u:=b1) A8 func70 rfl (.cons (.tmp rfl) .nil) rfl<|Ae rfl<|Aa<|Aq rfl<|Av (u:=b1) z8 func54 rfl (.cons (.tmp rfl) .nil) rfl<|Ac rfl<|RG.enterP (fst:=[]) (cap:=[]) (vs:=[b1,.func (.func 52) #[vP b0] #[]]) .plain (bd 53) func53 rfl rfl rfl rfl (e2 rfl rfl) rfl fun D03 s4 x04=>Af<|Ae rfl<|Ae rfl<|Aa<|Af<|Ac rfl<|Ac rfl ?_
 have j04:v1.length <= 4294967296:=St.rowLe (α:=Int) g2 .hd
 obtain ⟨x02,b03,X8⟩:=St.rowV (α:=Int) g2 .hd
 refine Ab (FV.lenV underlying41 rfl X8)<|RG.enterP (fst:=[vP b0]) (cap:=[]) (vs:=[vI ((v1.length:Nat):Int)]) .plain (bd 52) func52 rfl rfl rfl rfl (e1 rfl) rfl fun E03 C8 y04=>Af<|Ae rfl<|Ae rfl<|Aa<|Af<|Ac rfl<|Ab (Bx rfl)<|AT 0 rfl<|Ab (FV.loadN (cs:=[vU s0]) rfl rfl (aA (g2.memA .t6) 0 1))<|Ac rfl<|bk h fun G0 A01 h=>BA (.tuple #[vI G0.1,.agg #[vU G0.2.1.fc],vI G0.2.2]) (bd 14) rfl (e2 rfl rfl) (fun p q=>az_c n (g2.hL0 hL q) (⟨s0⟩:Ta) A01) rfl<|Ac rfl<|Ab (Am rfl rfl)<|Ab (Am rfl rfl)<|Ab (Am rfl rfl)<|RG.nl [vW 0] g2 fun v05 R02 q7 d4=>Ae rfl<|AX [vU G0.2.1.fc] q7 .hd (o1 rfl) fun x05 J3 g4=>Ae rfl<|Aa<|Af<|Ac rfl<|Ab (AK rfl (J3.memA .hd))<|Ab (Bx rfl)<|AT 0 rfl<|RG.now .plain (Acts.store (j:=0) (old:=[vU s0,vI a0.fN,v0_1,vU a1,vI B1]) (news:=[vU G0.2.1.fc]) (new' :=[vU G0.2.1.fc,vI a0.fN,v0_1,vU a1,vI B1]) J3 .t7 rfl rfl rfl rfl rfl rfl (o1 rfl) rfl) fun y05 A2 j4=>Aa<|Af<|Ac rfl<|Ac rfl<|Ae rfl<|Ae rfl<|Aa<|Aq rfl<|Av (u:=.tuple #[vI G0.1,vI G0.2.2]) C8 func52 rfl (.cons (.tmp rfl) (.cons (.tmp rfl) .nil)) rfl<|Ac rfl<|Ab (Am rfl rfl)<|Ab (Am rfl rfl)<|Ae rfl<|Ae rfl<|Aa<|Aj<|Af<|Ac rfl ?_
 refine Ab (FV.neq (i:=G0.2.2) (j:=0) rfl rfl)<|Aa<|MX.ifn rfl h (fun M2 h=>?_) (fun M2 h=>?_)
 refine Ao<|Af<|Ac rfl<|Ac rfl<|bk h fun s1 V00 h=>?_
 obtain ⟨v9,W00⟩:=au V00
 obtain ⟨x5,c03,j3,E4,x6,g00,J9⟩:=St.nth (α:=Int) A2 .t1 (Az v4 (Tt Y3 (Tt Z3 (Tt b4 (Tt c4 (Tt d4 (Tt g4 j4))))))) W00
 obtain ⟨D5,d03,Y8⟩:=St.nthOwn (α:=Int) A2 .t1 E4
 obtain rfl:x5 = ⟨D5,0,none⟩:=by rw [Y8] at j3; cases j3; rfl
 have Z8:x6 = [vI s1]:=g00; subst Z8
 refine Ab (Bk 1 (G0.1.toNat) rfl j3 rfl v9 E4)<|AA rfl (J9 0 _ rfl)<|Ae rfl<|Ae rfl<|Aa<|Aq rfl<|Av (u:=.tuple #[vI s1,vI 0]) s4 func53 rfl (.cons (.tmp rfl) (.cons (.tmp rfl) .nil)) rfl<|Ac rfl<|Ab (Am rfl rfl)<|Ab (Am rfl rfl)<|Ae rfl<|Ae rfl<|Aa<|Aj<|Af<|Ac rfl<|Ab (FV.neqN (i:=0) (j:=0) rfl rfl)<|Aa<|Bl rfl<|Ao<|Af<|Ac rfl<|Ae rfl<|Aa<|Ak<|Ac rfl<|Ac rfl<|Au .plain rfl (jA s1 (vI s1) A2 aq (e1 rfl)) fun z05 U02 U2 Z7=>bk h fun g02 p01 h=>?_
 have R4:=Tt M7 (Tt P7 (Tt Q7 (Tt R7 (Tt U7 (Tt U3 (Tt H2 (Tt X3 (Tt Y3 (Tt Z3 (Tt b4 (Tt c4 (Tt d4 (Tt g4 (Tt j4 Z7))))))))))))))
 refine Bz .plain rfl (Bw (α:=Int) (ys:=([s1]:List Int)) p01 U2 (fun _ _=>.t6) aq rfl rfl (Az u4 R4) (Src.row (α:=Int) U2 .hd (jC s1 (vI s1) U2 L rfl))) fun X01 A05 ⟨y6,s7,b8,K8⟩=>Ae rfl<|Aa<|Ap ?_
 obtain ⟨u7,k4⟩:=AH s7 .d6
 exact F6 (s1,g02,G0.2.1.fc,B1,X01,y6) u7 (Tt Q3 (Tt R4 (Tt b8 k4))) (Az K8 k4) h
 refine Af<|Ae rfl<|Aa<|Af<|Ac rfl<|Ac rfl<|Ae rfl<|Ae rfl<|Aa<|Aq rfl<|Av (u:=.tuple #[vI 0,vI G0.2.2]) s4 func53 rfl (.cons (.tmp rfl) (.cons (.tmp rfl) .nil)) rfl<|Ac rfl<|Ab (Am rfl rfl)<|Ab (Am rfl rfl)<|Ae rfl<|Ae rfl<|Aa<|Aj<|Af<|Ac rfl<|Ab (FV.neq (i:=G0.2.2) (j:=0) rfl rfl)<|Aa<|MX.cond_kt rfl (ee (decide_eq_false M2))<|Af<|Ac rfl<|Ae rfl<|Ae rfl<|Aa ?_
 have h:=ao h u3
 refine Aq rfl<|Av (u:=.tuple #[vN,vI G0.2.2]) c3 func24 rfl (.cons (.tmp rfl) (.cons (.tmp rfl) .nil)) rfl<|Ac rfl<|Ab (Am rfl rfl)<|Ab (Am rfl rfl)<|Ae rfl<|Ae rfl<|Aa<|Aj<|Af<|Ac rfl<|Ab (FV.neq (i:=G0.2.2) (j:=0) rfl rfl)<|Aa<|MX.cond_kt rfl (ee (decide_eq_false M2))<|Af<|Ab (AL (vs:=[]) (u:=.agg #[vW 0]) aj (fun p=>by kernel_rfl))<|Ac rfl<|Ae rfl<|AX [vW 0] A2 .t8 (o1 rfl) fun B05 B2 V03=>Ae rfl<|Aa ?_
 have h:=ao h s3
 refine Aq rfl ?_
 have j00:=Bo (α:=Int) B2 L
 refine Av hb0 func11 rfl (.cons (.tmp rfl) (.cons (.many (cs:=[vW 0]) rfl rfl (B2.memA .t8)) (.cons (.tmp rfl) .nil))) rfl ?_
 cases h
 exact ⟨B2.ag,fun p q=>⟨vN,rfl,B2.kd j00 q⟩⟩
 refine Ao<|Aj<|Ar<|Af<|Ac rfl<|Ac rfl<|bk h fun F1 B01 h=>BA (vI F1) (bd 68) rfl (e1 rfl) (fun p q=>al_c n (c2.hL0 hL q) K0 (hG0.keep (c2.ag.trans q)) B01) rfl<|RG.yieldP (fd:=70) (vs:=[vI F1]) .plain rfl (e1 rfl) c2 .hd E01 rfl rfl rfl fun F03 D8 z04=>Ak<|Ae rfl<|Aa<|MX.begin c2 .hd fun C05 K3 p4=>Ar<|Ak<|AA rfl ((K3.memA .t3) 0 _ rfl)<|Ac rfl<|Au .plain rfl (jA F1 (vI F1) K3 aq (e1 rfl)) fun D05 V02 V2 q4=>bk h fun j02 q01 h=>Bz .plain rfl (Bw (α:=Int) (ys:=([F1]:List Int)) q01 V2 (fun _ _=>.t3) aq rfl rfl (Az v4 (Tt p4 q4)) (Src.row (α:=Int) V2 .hd (jC F1 (vI F1) V2 L rfl))) fun b5 E05 ⟨z6,W2,c8,M8⟩=>RG.now .plain (AP (news:=[b5]) W2 .t4 rfl rfl rfl (St.c1 (α:=Int) W2 .t3) rfl rfl (o1 (St.o1 (α:=Int) W2 .t3))) fun F05 v7 d8=>Aa<|Ap<|MX.roundEnd D8 v7 .t1 fun G05 x7 g8=>Ab (FV.not rfl)<|Aa<|Bl rfl<|Ao<|Ap<|Ak<|Ac rfl<|Ac rfl<|Ab (FV.subU (a:=K0) (b:=(1:UInt64)) rfl rfl)<|Ab (FV.andU (a:=K0) (b:=K0 - (1:UInt64)) rfl rfl)<|Ae rfl<|Aa ?_
 obtain ⟨y7,j8⟩:=AH x7 .d1
 have U4:=Tt d8 (Tt g8 j8)
 exact H6 (K0 &&& (K0 - (1:UInt64)),j02,b5,z6) y7 (Tt X3 (Tt p4 (Tt q4 (Tt c8 U4)))) (Az M8 U4) h
 refine AV rfl ?_
 have h:=aI h s3
 try dsimp only at h
 refine Af<|Ac rfl<|RG.enterP (fst:=[]) (cap:=[]) (vs:=[c0]) .plain (bd 32) func32 rfl rfl rfl rfl (e1 rfl) rfl fun G03 E8 A04=>Af<|Ac rfl ?_
 have k04:d0.length <= 4294967296:=St.rowLe (α:=Int) U1 .hd
 obtain ⟨y02,g03,b9⟩:=St.rowV (α:=Int) U1 .hd
 refine Ab (FV.lenV underlying41 rfl b9)<|Ae rfl<|Aa<|Ak<|Ac rfl<|Ac rfl<|Ac rfl<|Ab (FV.convU (i:=((d0.length:Nat):Int)) underlying3 underlying38 rfl)<|bk h fun z3 C01 h=>BA (vI z3) (bd 61) rfl (e1 rfl) (fun p q=>bv_c n (U1.hL0 hL q) (ae ((d0.length:Nat):Int)) C01) rfl<|RG.enterP (fst:=[]) (cap:=[]) (vs:=[c0,vI 0,vI ((d0.length:Nat):Int),vI z3]) .plain (bd 60) func60 rfl rfl rfl rfl (e4 rfl rfl rfl rfl) rfl fun H03 F8 B04=>Af<|Ae rfl<|Aa<|Af<|Ae rfl<|Aa<|Ar<|MX.lo (α:=Nat × Nat × Int × Bool × Bool) (fun ⟨R0,Z0,Y1,k2,p2⟩=>[(0,c0),(1,vI ((R0:Nat):Int)),(2,vI ((Z0:Nat):Int)),(3,vI Y1),(8,.bool k2),(9,.bool p2)]) (fun ⟨R0,Z0,Y1,k2,p2⟩=>[rr w 3 Int c0 d0.length y0,.cells b0 [vU u0,vI a0.fN,v0_1,vU a1,vI C0] 69,.cells j0 [vW 0] 30,.cells g0 [vI a0.fN,v0_1] 34]) (fun ⟨R0,Z0,Y1,k2,p2⟩=>(R0,Z0,Y1,k2,p2)) (0,d0.length,z3,true,true) h U1 ?_
 rintro G02 ⟨R0,Z0,Y1,k2,p2⟩ U05 K03 z7 k8 h
 unfold ab_l7 at h
 try dsimp only at h
 refine Ar<|Af<|Ac rfl<|Ac rfl<|bk h fun M01 F00 h=>Ab (FV.subc (i:=((Z0:Nat):Int)) (j:=((R0:Nat):Int)) rfl rfl F00)<|Ae rfl<|Aa<|Aj<|Af<|Ac rfl<|Ab (FV.leq (i:=M01) (j:=12) rfl rfl)<|Aa<|AN rfl h (fun c6 h=>?_) (fun c6 h=>?_)
 refine Af<|Ac rfl<|Ac rfl<|Ac rfl<|RG.enterP (fst:=[]) (cap:=[]) (vs:=[c0,vI ((R0:Nat):Int),vI ((Z0:Nat):Int)]) .plain (bd 80) func80 rfl rfl rfl rfl (e3 rfl rfl rfl) rfl fun I03 G8 C04=>Af<|Ac rfl<|bk h fun P01 G00 h=>Ab (Bp (i:=((R0:Nat):Int)) (j:=1) rfl rfl G00)<|Ae rfl<|Aa<|Ar ?_
 obtain ⟨I04,W9,u9⟩:=ai h
 refine MX.lf (α:=Int × (List Int) × (List Value)) (fun ⟨j1,x1,H1⟩=>[(0,c0),(1,vI ((R0:Nat):Int)),(2,vI ((Z0:Nat):Int)),(6,vI j1)]) (fun ⟨j1,x1,H1⟩=>[rr w 3 Int c0 x1.length H1,.cells b0 [vU u0,vI a0.fN,v0_1,vU a1,vI C0] 69,.cells j0 [vW 0] 30,.cells g0 [vI a0.fN,v0_1] 34]) (fun ⟨j1,x1,H1⟩ p5=>Cells p5 (bl [rr w 3 Int c0 x1.length H1,.cells b0 [vU u0,vI a0.fN,v0_1,vU a1,vI C0] 69,.cells j0 [vW 0] 30,.cells g0 [vI a0.fN,v0_1] 34] ++ L) H1 x1) (fun ⟨j1,x1,H1⟩=>(j1,x1)) (P01,d0,y0) W9 z7 (Az d3 k8) ?_
 rintro H02 ⟨j1,x1,H1⟩ p5 I6 C2 p8 x4 h
 unfold ab_l6 at h
 try dsimp only at h
 refine Aj<|Af<|Ac rfl<|Ac rfl<|Ab (FV.lss (i:=j1) (j:=((Z0:Nat):Int)) rfl rfl)<|Aa<|AN rfl h (fun g6 h=>?_) (fun g6 h=>?_)
 refine Ao<|Aj<|Ar<|Af<|Ac rfl<|Ae rfl<|Aa<|Ar<|MX.xf (α:=(List Int) × (List Value)) 2 (fun ⟨E1,I1⟩=>[(0,c0),(1,vI ((R0:Nat):Int)),(2,vI ((Z0:Nat):Int)),(6,vI j1)]) (fun ⟨E1,I1⟩=>[rr w 3 Int c0 E1.length I1,.cells b0 [vU u0,vI a0.fN,v0_1,vU a1,vI C0] 69,.cells j0 [vW 0] 30,.cells g0 [vI a0.fN,v0_1] 34]) (fun ⟨E1,I1⟩ q5=>Cells q5 (bl [rr w 3 Int c0 E1.length I1,.cells b0 [vU u0,vI a0.fN,v0_1,vU a1,vI C0] 69,.cells j0 [vW 0] 30,.cells g0 [vI a0.fN,v0_1] 34] ++ L) I1 E1) (fun ⟨E1,I1⟩=>E1) C2 rfl h ?_ ?_
 rintro ⟨E1,I1⟩ q5 A7 q8 P8 h
 try dsimp only at h
 refine Ap<|Ak<|Ac rfl<|bk h fun Q01 H00 h=>Ab (Bp (i:=j1) (j:=1) rfl rfl H00)<|Ae rfl<|Aa<|I6 (Q01,E1,I1) A7 (Tt p8 q8) P8 h
 intro I02 E3 h
 try dsimp only at h
 obtain ⟨J04,X9,C4⟩:=ai h
 refine MX.lf (α:=Int × (List Int) × (List Value)) (fun ⟨I0,y1,A1⟩=>[(0,c0),(1,vI ((R0:Nat):Int)),(2,vI ((Z0:Nat):Int)),(6,vI j1),(7,vI I0)]) (fun ⟨I0,y1,A1⟩=>[rr w 3 Int c0 y1.length A1,.cells b0 [vU u0,vI a0.fN,v0_1,vU a1,vI C0] 69,.cells j0 [vW 0] 30,.cells g0 [vI a0.fN,v0_1] 34]) (fun ⟨I0,y1,A1⟩ s5=>Cells s5 (bl [rr w 3 Int c0 y1.length A1,.cells b0 [vU u0,vI a0.fN,v0_1,vU a1,vI C0] 69,.cells j0 [vW 0] 30,.cells g0 [vI a0.fN,v0_1] 34] ++ L) A1 y1) (fun ⟨I0,y1,A1⟩=>(I0,y1)) (j1,x1,H1) X9 C2 x4 ?_
 rintro J02 ⟨I0,y1,A1⟩ s5 J6 k1 b3 V1 h
 unfold ab_l5 at h
 try dsimp only at h
 refine Aj<|Aj<|du 15 fun t0 z0=>Rv 0 t0 rfl z0 (fun _=>Ag rfl)<|Rv 1 t0 rfl z0 (fun _=>Ag rfl)<|Rv 2 t0 rfl z0 (fun _=>FV.gtr (i:=I0) (j:=((R0:Nat):Int)) rfl rfl)<|Rv 3 t0 rfl z0 (fun _=>Ag rfl)<|RD.ifd (s:=19) rfl h (fun j6 h=>?_) (fun j6 h=>?_)
 refine RD.vP 4 31 t0 rfl z0 (.yes rfl rfl) (fun _=>Ag rfl) rfl<|RD.vP 5 63 t0 rfl z0 (.yes rfl rfl) (fun _=>Ag rfl) rfl<|bk h fun Y01 X00 h=>?_
 obtain ⟨v3,Y00⟩:=au X00
 obtain ⟨y5,j03,j2,I2,A6,k00,M4⟩:=St.nth (α:=Int) k1 .hd V1 Y00
 obtain ⟨E5,k03,A4⟩:=St.nthOwn (α:=Int) k1 .hd I2
 obtain rfl:y5 = ⟨E5,0,none⟩:=by rw [A4] at j2; cases j2; rfl
 have c9:A6 = [vI Y01]:=k00; subst c9
 refine RD.vP 6 127 t0 rfl z0 (.yes rfl rfl) (fun _=>Bk 1 (I0.toNat) rfl j2 rfl v3 I2) rfl<|RD.val (i:=7) (m' :=255) (W:=24576) (tk t0) rfl z0 (.yes rfl rfl) (AM rfl (M4 0 _ rfl)) rfl<|RD.vP 8 511 t0 rfl z0 (.yes rfl rfl) (fun _=>Ag rfl) rfl<|RD.vP 9 1023 t0 rfl z0 (.yes rfl rfl) (fun _=>Ag rfl) rfl<|bk h fun R01 I00 h=>RD.vP 10 2047 t0 rfl z0 (.yes rfl rfl) (fun _=>FV.subc (i:=I0) (j:=1) rfl rfl I00) rfl<|bk h fun Z01 Z00 h=>?_
 obtain ⟨x9,b01⟩:=au Z00
 obtain ⟨z5,p03,k3,F4,B6,p00,K9⟩:=St.nth (α:=Int) k1 .hd V1 b01
 obtain ⟨F5,q03,d9⟩:=St.nthOwn (α:=Int) k1 .hd F4
 obtain rfl:z5 = ⟨F5,0,none⟩:=by rw [d9] at k3; cases k3; rfl
 have g9:B6 = [vI Z01]:=p00; subst g9
 refine RD.vP 11 4095 t0 rfl z0 (.yes rfl rfl) (fun _=>Bk 1 (R01.toNat) rfl k3 rfl x9 F4) rfl<|RD.val (i:=12) (m' :=8191) (W:=24576) (tk t0) rfl z0 (.yes rfl rfl) (AM rfl (K9 0 _ rfl)) rfl<|bk h fun q02 D01 h=>RD.callq (i:=13) (m' :=16383) (W:=16384) (tk t0) rfl z0 (v:=.bool q02) (fst:=[]) (cap:=[]) (.yes rfl rfl) (bd 86) rfl (e2 rfl rfl) (fun p q=>bx_c n (k1.hL0 hL q)  D01) rfl<|Rv 14 t0 rfl z0 (fun _=>Bj rfl rfl)<|AZ (dk t0)<|MX.ifb rfl h (fun k6 h=>?_) (fun k6 h=>?_)
 refine Ao<|Aj<|Ar<|du 15 fun p0 F0=>Rv 0 p0 rfl F0 (fun _=>Ag rfl)<|Rv 1 p0 rfl F0 (fun _=>Ag rfl)<|Rv 2 p0 rfl F0 (fun _=>Ag rfl)<|Rv 3 p0 rfl F0 (fun _=>Ag rfl)<|bk h fun Z4 J00 h=>Rv 4 p0 rfl F0 (fun _=>FV.subc (i:=I0) (j:=1) rfl rfl J00)<|Rv 5 p0 rfl F0 (fun _=>Ag rfl)<|Rv 6 p0 rfl F0 (fun _=>Ag rfl)<|bk h fun U01 K00 h=>Rv 7 p0 rfl F0 (fun _=>FV.subc (i:=I0) (j:=1) rfl rfl K00)<|bk h fun b02 c01 h=>?_
 obtain ⟨y9,d01⟩:=au c01
 obtain ⟨A5,s03,p3,G4,C6,q00,M9⟩:=St.nth (α:=Int) k1 .hd V1 d01
 obtain ⟨G5,t03,j9⟩:=St.nthOwn (α:=Int) k1 .hd G4
 obtain rfl:A5 = ⟨G5,0,none⟩:=by rw [j9] at p3; cases p3; rfl
 have k9:C6 = [vI b02]:=q00; subst k9
 refine Rv 8 p0 rfl F0 (fun _=>Bk 1 (U01.toNat) rfl p3 rfl y9 G4)<|Rx 9 245760 p0 rfl F0 (AM rfl (M9 0 _ rfl))<|Rv 10 p0 rfl F0 (fun _=>Ag rfl)<|Rv 11 p0 rfl F0 (fun _=>Ag rfl)<|Rv 12 p0 rfl F0 (fun _=>Bk 1 (I0.toNat) rfl j2 rfl v3 I2)<|Rx 13 245760 p0 rfl F0 (AM rfl (M4 0 _ rfl))<|Rv 14 p0 rfl F0 (fun _=>Bk 1 (I0.toNat) rfl j2 rfl v3 I2)<|bk h fun V05 s01 h=>RD.one (i:=15) (rk p0) (RO.acts (m' :=65535) (sk p0) rfl rfl .plain (Acts.set (α:=Int) (i:=I0.toNat) s01 k1 A4 (fun _=>.hd) V1 rfl rfl rfl rfl rfl rfl) (fun H05 ⟨J03,X2,s8,y4⟩=>?_))
 refine bk h fun c02 g01 h=>?_
 obtain ⟨z9,j01⟩:=au g01
 obtain ⟨B5,u03,q3,H4,D6,s00,p04⟩:=St.nth (α:=Int) X2 .hd y4 j01
 obtain ⟨H5,v03,B4⟩:=St.nthOwn (α:=Int) X2 .hd H4
 obtain rfl:B5 = ⟨H5,0,none⟩:=by rw [B4] at q3; cases q3; rfl
 have p9:D6 = [vI c02]:=s00; subst p9
 refine RD.one (i:=16) (rk p0) (RO.val (m' :=131071) (sk p0) rfl .plain rfl (Bk 1 (Z4.toNat) rfl q3 rfl z9 H4) ?_)
 refine bk h fun k02 t01 h=>RD.one (i:=17) (rk p0) (RO.acts (m' :=262143) (sk p0) rfl rfl .plain (Acts.set (α:=Int) (i:=Z4.toNat) t01 X2 B4 (fun _=>.hd) y4 rfl rfl rfl rfl rfl rfl) (fun I05 ⟨E6,B7,u8,Q8⟩=>?_))
 refine AZ (dk p0)<|Ap<|Ak<|Ac rfl<|bk h fun V01 M00 h=>Ab (FV.subc (i:=I0) (j:=1) rfl rfl M00)<|Ae rfl<|Aa<|J6 (V01,k02,E6) B7 (Tt b3 (Tt s8 u8)) Q8 h
 refine AV rfl ?_
 have h:=C4 _ h
 try dsimp only at h
 exact E3 (y1,A1) k1 b3 V1 h
 refine Bi 16383 1 [(4,20),(5,21),(6,22),(7,23),(8,24),(9,25),(10,26),(11,27),(12,28),(13,29)] (F:=[(19,false)]) (U:=[]) t0 z0 (.cons rfl .nil) .nil ?_
 dsimp only [ax,List.map]
 refine Rv 14 t0 rfl z0 (fun _=>AD rfl rfl)<|AZ (dk t0)<|Bl rfl<|AV rfl ?_
 have h:=C4 _ h
 try dsimp only at h
 exact E3 (y1,A1) k1 b3 V1 h
 refine AV rfl ?_
 have h:=u9 _ h
 try dsimp only at h
 refine MX.fin rfl<|Av (u:=.tuple #[]) G8 func80 rfl .nil rfl<|Aa<|Aq rfl<|Av (u:=.tuple #[]) F8 func60 rfl .nil rfl<|Aa<|MX.fin rfl<|Av (u:=.tuple #[]) E8 func32 rfl .nil rfl<|Aa<|Aj<|du 6 fun p1 W1=>Rv 0 p1 rfl W1 (fun _=>Ag rfl)<|Rv 1 p1 rfl W1 (fun _=>Ag rfl)<|Rv 2 p1 rfl W1 (fun _=>Bx rfl)<|Rv 3 p1 rfl W1 (fun _=>BB 0 rfl)<|Rx 4 192 p1 rfl W1 (FV.loadN (cs:=[vU u0]) rfl rfl (aA (C2.memA .t1) 0 1))<|Rv 5 p1 rfl W1 (fun _=>Ba rfl)<|RD.nw 6 127 p1 rfl rfl .plain (AP (news:=[vU u0]) C2 .t2 rfl rfl rfl rfl rfl rfl (o1 rfl)) fun J05 Y2 v8=>RD.one (i:=7) (rk p1) (RO.val (m' :=255) (sk p1) rfl .plain rfl (Ba rfl) ?_)
 refine AZ (dk p1)<|Aq rfl ?_
 have D2:=Bt Y2 .hd
 have Y03:=Bu Y2 .hd
 have t00:=Bv (α:=Int) (v:=c0) (xs:=x1) D2 L (Bf (α:=Int) Y2 .hd (Az x4 v8) hL)
 refine Av hb0 func11 rfl (.cons (.tmp rfl) (.cons (.many (cs:=[vU u0]) rfl rfl (D2.memA .t1)) (.cons (.tmp rfl) .nil))) rfl ?_
 cases h
 exact ⟨D2.ag,fun p q=>⟨c0,rfl,D2.kd t00 q⟩⟩
 refine Ao<|Aj<|Af<|Ac rfl<|Ab (Br (i:=Y1) (j:=0) rfl rfl)<|Aa<|AN rfl h (fun p6 h=>?_) (fun p6 h=>?_)
 refine Af<|Ac rfl<|Ac rfl<|Ac rfl ?_
 cases h
 refine Ao<|Aj<|Af<|Ac rfl<|Ab (FV.not rfl)<|Aa<|MX.ifnb rfl h (fun q6 h=>?_) (fun q6 h=>?_)
 refine Ao<|Af<|Ac rfl<|Ac rfl<|Ac rfl ?_
 cases h
 refine Af<|Ac rfl<|Ac rfl<|Ac rfl ?_
 cases h
 refine Af<|Ab (AL (vs:=[]) (u:=.agg #[vW 0]) aj (fun p=>by kernel_rfl))<|Ae rfl<|AX [vW 0] v0 .hd (o1 rfl) fun K05 E2 Z03=>Ae rfl<|Aa<|Aq rfl ?_
 have u00:=Bo (α:=Int) E2 L
 refine Av hb0 func11 rfl (.cons (.tmp rfl) (.cons (.many (cs:=[vW 0]) rfl rfl (E2.memA .hd)) (.cons (.tmp rfl) .nil))) rfl ?_
 cases h
 exact ⟨E2.ag,fun p q=>⟨vN,rfl,E2.kd u00 q⟩⟩
 refine Af<|Ab (AL (vs:=[]) (u:=.agg #[vW 0]) aj (fun p=>by kernel_rfl))<|Ae rfl<|AX [vW 0] v0 .hd (o1 rfl) fun M05 F2 b04=>Ae rfl<|Aa<|Aq rfl ?_
 have v00:=Bo (α:=Int) F2 L
 refine Av hb0 func11 rfl (.cons (.tmp rfl) (.cons (.many (cs:=[vW 0]) rfl rfl (F2.memA .hd)) (.cons (.tmp rfl) .nil))) rfl ?_
 cases h
 exact ⟨F2.ag,fun p q=>⟨vN,rfl,F2.kd v00 q⟩⟩
 refine Af<|Ab (AL (vs:=[]) (u:=.agg #[vW 0]) aj (fun p=>by kernel_rfl))<|Ac rfl<|Ae rfl<|AX [vW 0] v0 .hd (o1 rfl) fun P05 G2 c04=>Ae rfl<|Aa<|Aq rfl ?_
 have x00:=Bo (α:=Int) G2 L
 refine Av hb0 func11 rfl (.cons (.tmp rfl) (.cons (.many (cs:=[vW 0]) rfl rfl (G2.memA .hd)) (.cons (.tmp rfl) .nil))) rfl ?_
 cases h
 exact ⟨G2.ag,fun p q=>⟨vN,rfl,G2.kd x00 q⟩⟩
theorem dH:ElT Tryz.prog 32 62 (Rep.size (Int × Int)) 16 (.agg #[vI 0,vI 0]) [vI 0,vI 0]:=⟨underlying32,by kernel_rfl,rfl,rfl,rfl,rfl⟩
def bt_p (_n:Nat):Option Tb:=
  some (⟨(4:Int),([((0:Int),(1:Int)),((0:Int),(3:Int)),((1:Int),(2:Int)),((2:Int),(3:Int))]:List (Int × Int))⟩:Tb)
theorem bt_c (n:Nat) {L w} (hL:hl L w)  {r:Tb} (h:bt_p n = some r) :
 Cl 13 #[] w (ah w fun w' u=>∃ v0_1:Value,u = .agg #[vI r.fN,v0_1]/\Rep.R w' L [v0_1] r.fh):=by
 unfold bt_p at h
 refine AG func13 rfl rfl rfl fun _ cs0 hb0=>Af<|RG.nl [vI 0,vN] (AF w) fun v0 q0 j0 s0=>Aa<|Af<|Ab (AL (vs:=[vI 0,vI 1]) (u:=.agg #[vI 0,vI 1]) (e2 rfl rfl) (fun p=>by kernel_rfl))<|Ab (AL (vs:=[vI 0,vI 3]) (u:=.agg #[vI 0,vI 3]) (e2 rfl rfl) (fun p=>by kernel_rfl))<|Ab (AL (vs:=[vI 1,vI 2]) (u:=.agg #[vI 1,vI 2]) (e2 rfl rfl) (fun p=>by kernel_rfl))<|Ab (AL (vs:=[vI 2,vI 3]) (u:=.agg #[vI 2,vI 3]) (e2 rfl rfl) (fun p=>by kernel_rfl))<|Au .plain rfl (AO (α:=Int × Int) (xs:=([((0:Int),(1:Int)),((0:Int),(3:Int)),((1:Int),(2:Int)),((2:Int),(3:Int))]:List (Int × Int))) (vs:=[.agg #[vI 0,vI 1],.agg #[vI 0,vI 3],.agg #[vI 1,vI 2],.agg #[vI 2,vI 3]]) (ds' :=[vI 0,vI 1,vI 0,vI 3,vI 1,vI 2,vI 2,vI 3]) rfl j0 dH rfl (e4 rfl rfl rfl rfl) (by kernel_rfl) rfl) fun x0 b0 d0 t0=>Ab (AL (vs:=[vI 4,(vS b0 4)]) (u:=.agg #[vI 4,(vS b0 4)]) (e2 rfl rfl) (fun p=>by kernel_rfl))<|AX [vI 4,(vS b0 4)] d0 .t1 (o2 rfl (St.o1 (α:=Int × Int) d0 .hd)) fun y0 g0 k0=>Aa<|Aq rfl ?_
 have c0:=Bt g0 .hd
 have u0:=Bu g0 .hd
 have p0:=Bv (α:=Int × Int) (v:=(vS b0 4)) (xs:=([((0:Int),(1:Int)),((0:Int),(3:Int)),((1:Int),(2:Int)),((2:Int),(3:Int))]:List (Int × Int))) c0 L (Bf (α:=Int × Int) g0 .hd (Az (AE (cs:=[vI 0,vI 1,vI 0,vI 3,vI 1,vI 2,vI 2,vI 3]) (xs:=(([((0:Int),(1:Int)),((0:Int),(3:Int)),((1:Int),(2:Int)),((2:Int),(3:Int))]:List (Int × Int)):List (Int × Int))) d0 L (Ay (cs:=[vI 0,vI 1]) (ds:=[vI 0,vI 3,vI 1,vI 2,vI 2,vI 3]) (bn (0:Int) (1:Int)) (Ay (cs:=[vI 0,vI 3]) (ds:=[vI 1,vI 2,vI 2,vI 3]) (bn (0:Int) (3:Int)) (Ay (cs:=[vI 1,vI 2]) (ds:=[vI 2,vI 3]) (bn (1:Int) (2:Int)) (Ay (cs:=[vI 2,vI 3]) (ds:=[]) (bn (2:Int) (3:Int)) (AJ _ _)))))) k0) hL)
 refine Av hb0 func13 rfl (.cons (.many (cs:=[vI 4,(vS b0 4)]) rfl rfl (c0.memA .hd)) .nil) rfl ?_
 cases h
 exact ⟨c0.ag,fun p q=>⟨(vS b0 4),rfl,c0.kd p0 q⟩⟩
def ai_l1 (_n:Nat) (a0:List Int) (a1:List Int) (b0:Nat -> Option (Bool ⊕ Unit)):Nat -> Option (Bool ⊕ Unit)
  | i32=>(if i32 < a0.length then (a0[i32]?).bind fun c0=>(a1[i32]?).bind fun d0=>(if c0 = d0 then b0 (i32 + 1) else some (.inl false)) else some (.inr ()))
def ai_p (n:Nat) (a0:List Int) (a1:List Int):Option Bool:=
  (if a0.length = a1.length then thn (ac (ai_l1 n a0 a1) n 0) (fun _=>some true) else some false)
theorem ai_c (n:Nat) {L w} (_hL:hl L w) {a0:List Int} {v0_0:Value} (h0_0:Rep.R w L [v0_0] a0) {a1:List Int} {v1_0:Value} (h1_0:Rep.R w L [v1_0] a1)  {r:Bool} (h:ai_p n a0 a1 = some r) :
 Cl 10 #[v0_0,v1_0] w (ah w fun _ u=>u = .bool r):=by
 unfold ai_p at h
 have hS0:=AF w
 refine AG func10 rfl rfl rfl fun _ cs0 hb0=>Af<|Ae rfl<|Aa<|Aj<|Af<|Ac rfl ?_
 have hl1:a0.length <= 281474976710656:=AY h0_0
 refine Ab (Bh (xs:=a0) underlying41 rfl h0_0)<|Ac rfl ?_
 have hl2:a1.length <= 281474976710656:=AY h1_0
 refine Ab (Bh (xs:=a1) underlying41 rfl h1_0)<|Ab (FV.neqN (i:=a0.length) (j:=a1.length) rfl rfl)<|Aa<|MX.ifn rfl h (fun c3 h=>?_) (fun c3 h=>?_)
 refine Ao<|Aj<|Af<|Ac rfl<|Ab (Bh (xs:=a0) underlying41 rfl h0_0)<|Ac rfl<|Aa<|Ar<|tn h fun U0 F0 g0=>MX.lo (α:=Nat) (fun i32=>[(0,v0_0),(1,v1_0),(12,vI ((a0.length:Nat):Int)),(13,vI ((i32:Nat):Int))]) (fun i32=>[]) (fun i32=>i32) 0 F0 hS0 ?_
 rintro P0 i32 V0 u0 d0 v0 h
 unfold ai_l1 at h
 try dsimp only at h
 refine Af<|Ab (Bq (i:=i32) (j:=a0.length) rfl rfl)<|Aa<|Aj<|AN rfl h (fun p0 h=>?_) (fun p0 h=>?_)
 refine Ao<|Aj<|Ar<|Af<|Ac rfl<|Ae rfl<|Aa<|Aj<|du 9 fun b0 c0=>Rv 0 b0 rfl c0 (fun _=>Ag rfl)<|Rv 1 b0 rfl c0 (fun _=>Ag rfl)<|bk h fun j0 I0 h=>?_
 obtain ⟨K0,Q0,x0,B0,s0,G0,D0⟩:=Bm (Be h0_0 d0) I0
 have y0:s0 = [vI j0]:=G0; subst y0
 refine Rv 2 b0 rfl c0 (fun _=>Bk 1 i32 rfl x0 rfl rfl B0)<|Rx 3 256 b0 rfl c0 (AM rfl (D0 0 _ rfl))<|Rv 4 b0 rfl c0 (fun _=>Ag rfl)<|Rv 5 b0 rfl c0 (fun _=>Ag rfl)<|bk h fun k0 J0 h=>?_
 obtain ⟨M0,R0,z0,C0,t0,H0,E0⟩:=Bm (Be h1_0 d0) J0
 have A0:t0 = [vI k0]:=H0; subst A0
 refine Rv 6 b0 rfl c0 (fun _=>Bk 1 i32 rfl z0 rfl rfl C0)<|Rx 7 256 b0 rfl c0 (AM rfl (E0 0 _ rfl))<|Rv 8 b0 rfl c0 (fun _=>FV.neq (i:=j0) (j:=k0) rfl rfl)<|AZ (dk b0)<|MX.ifn rfl h (fun q0 h=>?_) (fun q0 h=>?_)
 refine Ao<|Ap<|Ak<|Ab (AW (i:=i32) (j:=1) rfl rfl (by omega))<|Ac rfl<|Aa<|u0 (i32 + 1) d0 v0 h
 refine Af<|Ae rfl<|Aa ?_
 have h:=ao h g0
 refine Aq rfl<|AQ hb0 func10 rfl rfl ?_
 cases h
 exact d0.gv
 refine AV rfl ?_
 have h:=aI h g0
 try dsimp only at h
 refine Af<|Ae rfl<|Aa<|Aq rfl<|AQ hb0 func10 rfl rfl ?_
 cases h
 exact d0.gv
 refine Af<|Ae rfl<|Aa<|Aq rfl<|AQ hb0 func10 rfl rfl ?_
 cases h
 exact hS0.gv
def aY_p (n:Nat) (a0:List Int) (a1:Int) (a2:List Int):Option Bool:=
  (ai_p n a0 a2).bind fun y1=>(if y1 = true then some (decide (a1 = 0)) else some false)
theorem aY_c (n:Nat) {L w} (hL:hl L w) {a0:List Int} {v0_0:Value} (h0_0:Rep.R w L [v0_0] a0) {a1:Int} {a2:List Int} {v2_0:Value} (h2_0:Rep.R w L [v2_0] a2) {p2:Nat} (m2:∀ j9 v9,([v2_0]:List Value)[j9]? = some v9 -> w.cell? ((⟨p2,0,none⟩:Addr).add j9) = some v9)  {r:Bool} (h:aY_p n a0 a1 a2 = some r) :
 Cl 40 #[v0_0,vI a1,.pointer (some ⟨p2,0,none⟩)] w (ah w fun _ u=>u = .bool r):=by
 unfold aY_p at h
 have hS0:=AF w
 refine AG func40 rfl rfl rfl fun _ cs0 hb0=>Af<|Ae rfl<|Aa<|Af<|Ac rfl<|AA rfl ((fun j9 v9 h9=>hS0.ag.cell0 (m2 j9 v9 h9)) 0 _ rfl)<|bk h fun y1 hy1 h=>BA (.bool y1) (bd 10) rfl (e2 rfl rfl) (fun p q=>ai_c n (hS0.hL0 hL q) (hS0.kd h0_0 q) (hS0.kd h2_0 q) hy1) rfl<|Ac rfl<|RG.ifb (s:=9) rfl h (fun c2 h=>?_) (fun c2 h=>?_)
 refine Al (Ag rfl)<|Al (Br (i:=a1) (j:=0) rfl rfl)<|Bd rfl rfl<|Ae rfl<|Aa<|Aq rfl<|AQ hb0 func40 rfl rfl ?_
 cases h
 exact hS0.gv
 refine Ah<|Ah<|Bb rfl rfl<|Ae rfl<|Aa<|Aq rfl<|AQ hb0 func40 rfl rfl ?_
 cases h
 exact hS0.gv
theorem bc_c (_n:Nat) {L w} (_hL:hl L w) (a0:List Int) {v0_0:Value} (h0_0:Rep.R w L [v0_0] a0)  :
 Cl 15 #[v0_0] w (ah w fun w' u=>∃ b0:Nat,u = .func (.func 40) #[] #[vP b0]/\St w w' [.cells b0 [v0_0] 41]):=by
 refine AG func15 rfl rfl rfl fun _ cs0 hb0=>Af<|RG.bx (AF w) rfl (Rep.c1 h0_0) fun g0 b0 c0 d0=>Ae rfl<|Aa<|Af<|Ab (FV.makeFunc (vs:=[]) (us:=[vP b0]) aj (e1 rfl))<|Ae rfl<|Aa<|Aq rfl<|Av (u:=.func (.func 40) #[] #[vP b0]) hb0 func15 rfl (.cons (.tmp rfl) .nil) rfl<|⟨c0.ag,fun p q=>⟨b0,rfl,c0.agree q⟩⟩
def br_p (n:Nat) (a0:List Int):Option ((List Int) × Int):=
  (if a0.length = 0 then some (([]:List Int),(4:Int)) else (if 10001 < a0.length then some (([]:List Int),(3:Int)) else (av_p n a0).bind fun y6=>some (y6,(0:Int))))
theorem br_c (n:Nat) {L w} (hL:hl L w) {a0:List Int} {v0_0:Value} (h0_0:Rep.R w L [v0_0] a0)  {r:(List Int) × Int} (h:br_p n a0 = some r) :
 Cl 16 #[v0_0] w (ah w fun w' u=>∃ v0_0:Value,u = .tuple #[v0_0,vI r.2]/\Rep.R w' L [v0_0] r.1):=by
 unfold br_p at h
 have hS0:=AF w
 refine AG func16 rfl rfl rfl fun _ cs0 hb0=>Af<|Ae rfl<|Ae rfl<|Aa<|Aj<|Af<|Ac rfl ?_
 have hl1:a0.length <= 281474976710656:=AY h0_0
 refine Ab (Bh (xs:=a0) underlying41 rfl h0_0)<|Ab (FV.eqlN (i:=a0.length) (j:=0) rfl rfl)<|Aa<|AN rfl h (fun c2 h=>?_) (fun c2 h=>?_)
 refine Af<|Ae rfl<|Ae rfl<|Aa<|Aq rfl ?_
 have hr3:=Bo (α:=Int) hS0 L
 refine Av hb0 func16 rfl (.cons (.tmp rfl) (.cons (.tmp rfl) .nil)) rfl ?_
 cases h
 exact ⟨hS0.ag,fun p q=>⟨vN,rfl,hS0.kd hr3 q⟩⟩
 refine Ao<|Aj<|Af<|Ac rfl<|Ab (Bh (xs:=a0) underlying41 rfl h0_0)<|Ab (FV.gtrN (i:=a0.length) (j:=10001) rfl rfl)<|Aa<|AN rfl h (fun c4 h=>?_) (fun c4 h=>?_)
 refine Af<|Ae rfl<|Ae rfl<|Aa<|Aq rfl ?_
 have hr5:=Bo (α:=Int) hS0 L
 refine Av hb0 func16 rfl (.cons (.tmp rfl) (.cons (.tmp rfl) .nil)) rfl ?_
 cases h
 exact ⟨hS0.ag,fun p q=>⟨vN,rfl,hS0.kd hr5 q⟩⟩
 refine Ao<|Af<|Ac rfl<|bk h fun y6 hy6 h=>jE (bd 30) rfl (e1 rfl) (fun p q=>av_c n (hS0.hL hL q) (Ax h0_0 q) hy6) rfl fun w7 vu8 hag9 ⟨g0,hu_,c0⟩=>?_
 subst hu_
 obtain ⟨b0,d0⟩:=hS0.agr hag9
 refine Ae rfl<|Ae rfl<|Aa<|Aq rfl<|Av hb0 func16 rfl (.cons (.tmp rfl) (.cons (.tmp rfl) .nil)) rfl ?_
 cases h
 exact ⟨b0.ag,fun p q=>⟨vu8,rfl,b0.kd c0 q⟩⟩
def bh_p (_n:Nat) (a0:List Int) (a1:Int) (a2:Int):Option Bool:=
  (if a0.length = 0 then some (decide (a1 = a2)) else some false)
theorem bh_c (n:Nat) {L w} (_hL:hl L w) {a0:List Int} {v0_0:Value} (h0_0:Rep.R w L [v0_0] a0) {a1:Int} {a2:Int} {p2:Nat} (m2:∀ j9 v9,([vI a2]:List Value)[j9]? = some v9 -> w.cell? ((⟨p2,0,none⟩:Addr).add j9) = some v9)  {r:Bool} (h:bh_p n a0 a1 a2 = some r) :
 Cl 41 #[v0_0,vI a1,.pointer (some ⟨p2,0,none⟩)] w (ah w fun _ u=>u = .bool r):=by
 unfold bh_p at h
 have hS0:=AF w
 refine AG func41 rfl rfl rfl fun _ cs0 hb0=>Af<|Ae rfl<|Aa<|Af<|Ac rfl ?_
 have hl1:a0.length <= 281474976710656:=AY h0_0
 refine Ab (Bh (xs:=a0) underlying41 rfl h0_0)<|Ab (FV.eqlN (i:=a0.length) (j:=0) rfl rfl)<|Ac rfl<|Bn (s:=9) rfl h (fun c2 h=>?_) (fun c2 h=>?_)
 refine Al (Ag rfl)<|Al (AM rfl ((fun j9 v9 h9=>hS0.ag.cell0 (m2 j9 v9 h9)) 0 _ rfl))<|Al (Br (i:=a1) (j:=a2) rfl rfl)<|Bd rfl rfl<|Ae rfl<|Aa<|Aq rfl<|AQ hb0 func41 rfl rfl ?_
 cases h
 exact hS0.gv
 refine Ah<|Ah<|Ah<|Bb rfl rfl<|Ae rfl<|Aa<|Aq rfl<|AQ hb0 func41 rfl rfl ?_
 cases h
 exact hS0.gv
theorem bF_c (_n:Nat) {L w} (_hL:hl L w) (a0:Int)  :
 Cl 17 #[vI a0] w (ah w fun w' u=>∃ b0:Nat,u = .func (.func 41) #[] #[vP b0]/\St w w' [.cells b0 [vI a0] 42]):=by
 refine AG func17 rfl rfl rfl fun _ cs0 hb0=>Af<|RG.bx (AF w) rfl rfl fun g0 b0 c0 d0=>Ae rfl<|Aa<|Af<|Ab (FV.makeFunc (vs:=[]) (us:=[vP b0]) aj (e1 rfl))<|Ae rfl<|Aa<|Aq rfl<|Av (u:=.func (.func 41) #[] #[vP b0]) hb0 func17 rfl (.cons (.tmp rfl) .nil) rfl<|⟨c0.ag,fun p q=>⟨b0,rfl,c0.agree q⟩⟩
theorem bD (a b:UInt64) (p:World):(do eqGuard .eql 30 (.tmp 0) (.tmp 0) (.agg #[vU a]) (.agg #[vU b]); binOp .eql 30 (.agg #[vU a]) (.agg #[vU b]):Sem Value).run Tryz.prog p = .ok (.bool (decide (a = b))) p:=eqStr1 underlying30 rfl rfl (by kernel_rfl) underlying26 (by kernel_rfl) (by kernel_rfl) a b _ _ p
def aN_p (n:Nat) (a0:List Int) (a1:Ta) (a2:Int) (a3:List Int) (a4:Ta):Option Bool:=
  (ai_p n a0 a3).bind fun b0=>(if b0 = true then (if a1.fc = a4.fc then some (decide (a2 = 0)) else some false) else some false)
theorem aN_c (n:Nat) {L w} (hL:hl L w) {a0:List Int} {v0_0:Value} (h0_0:Rep.R w L [v0_0] a0) (a1:Ta) {a2:Int} {a3:List Int} {v3_0:Value} (h3_0:Rep.R w L [v3_0] a3) {p3:Nat} (m3:∀ j9 v9,([v3_0]:List Value)[j9]? = some v9 -> w.cell? ((⟨p3,0,none⟩:Addr).add j9) = some v9) (a4:Ta) {p4:Nat} (m4:∀ j9 v9,([vU a4.fc]:List Value)[j9]? = some v9 -> w.cell? ((⟨p4,0,none⟩:Addr).add j9) = some v9)  {r:Bool} (h:aN_p n a0 a1 a2 a3 a4 = some r) :
 Cl 42 #[v0_0,.agg #[vU a1.fc],vI a2,.pointer (some ⟨p3,0,none⟩),.pointer (some ⟨p4,0,none⟩)] w (ah w fun _ u=>u = .bool r):=by
 unfold aN_p at h
 refine AG func42 rfl rfl rfl fun _ cs0 hb0=>Af<|RG.bx (AF w) rfl rfl fun s0 p0 b0 q0=>Ae rfl<|Aa<|Af<|Ac rfl<|AA rfl ((fun j9 v9 h9=>b0.ag.cell0 (m3 j9 v9 h9)) 0 _ rfl)<|bk h fun j0 g0 h=>BA (.bool j0) (bd 10) rfl (e2 rfl rfl) (fun p q=>ai_c n (b0.hL0 hL q) (b0.k0 h0_0 q) (b0.k0 h3_0 q) g0) rfl<|Ac rfl<|RG.ifb (s:=12) rfl h (fun c0 h=>?_) (fun c0 h=>?_)
 refine Al (AK rfl (b0.memA .hd))<|Al (AK rfl (fun j9 v9 h9=>b0.ag.cell0 (m4 j9 v9 h9)))<|Al (FV.eqlV (v:=.agg #[vU a1.fc]) (u:=.agg #[vU a4.fc]) rfl rfl (bD a1.fc a4.fc))<|Bd rfl rfl<|Ac rfl<|Bn (s:=17) rfl h (fun d0 h=>?_) (fun d0 h=>?_)
 refine Al (Ag rfl)<|Al (Br (i:=a2) (j:=0) rfl rfl)<|Bd rfl rfl<|Ae rfl<|Aa<|Aq rfl<|AQ hb0 func42 rfl rfl ?_
 cases h
 exact b0.gv
 refine Ah<|Ah<|Bb rfl rfl<|Ae rfl<|Aa<|Aq rfl<|AQ hb0 func42 rfl rfl ?_
 cases h
 exact b0.gv
 refine Ah<|Ah<|Ah<|Bb rfl rfl<|Ac rfl<|Ah<|Ah<|Bb rfl rfl<|Ae rfl<|Aa<|Aq rfl<|AQ hb0 func42 rfl rfl ?_
 cases h
 exact b0.gv
theorem bC_c (_n:Nat) {L w} (_hL:hl L w) (a0:Ta) (a1:List Int) {v1_0:Value} (h1_0:Rep.R w L [v1_0] a1)  :
 Cl 18 #[.agg #[vU a0.fc],v1_0] w (ah w fun w' u=>∃ c0 b0:Nat,u = .func (.func 42) #[] #[vP c0,vP b0]/\St w w' [.cells c0 [v1_0] 41,.cells b0 [vU a0.fc] 30]):=by
 refine AG func18 rfl rfl rfl fun _ cs0 hb0=>Af<|RG.bx (AF w) rfl rfl fun p0 b0 d0 j0=>RG.bx d0 rfl (Rep.c1 (Be h1_0 d0)) fun q0 c0 g0 k0=>Ae rfl<|Aa<|Af<|Ab (FV.makeFunc (vs:=[]) (us:=[vP c0,vP b0]) aj (e2 rfl rfl))<|Ae rfl<|Aa<|Aq rfl<|Av (u:=.func (.func 42) #[] #[vP c0,vP b0]) hb0 func18 rfl (.cons (.tmp rfl) .nil) rfl<|⟨g0.ag,fun p q=>⟨c0,b0,rfl,g0.agree q⟩⟩
def aC_p (_n:Nat) (a0:List Int) (a1:Ta) (a2:Int) (a3:Int):Option Bool:=
  (if a0.length = 0 then (if a1.fc = (0:UInt64) then some (decide (a2 = a3)) else some false) else some false)
theorem aC_c (n:Nat) {L w} (_hL:hl L w) {a0:List Int} {v0_0:Value} (h0_0:Rep.R w L [v0_0] a0) (a1:Ta) {a2:Int} {a3:Int} {p3:Nat} (m3:∀ j9 v9,([vI a3]:List Value)[j9]? = some v9 -> w.cell? ((⟨p3,0,none⟩:Addr).add j9) = some v9)  {r:Bool} (h:aC_p n a0 a1 a2 a3 = some r) :
 Cl 43 #[v0_0,.agg #[vU a1.fc],vI a2,.pointer (some ⟨p3,0,none⟩)] w (ah w fun _ u=>u = .bool r):=by
 unfold aC_p at h
 refine AG func43 rfl rfl rfl fun _ cs0 hb0=>Af<|RG.bx (AF w) rfl rfl fun q0 j0 b0 k0=>Ae rfl<|Aa<|Af<|Ac rfl ?_
 have c0:=Be h0_0 b0
 have p0:a0.length <= 281474976710656:=AY c0
 refine Ab (Bh (xs:=a0) underlying41 rfl c0)<|Ab (FV.eqlN (i:=a0.length) (j:=0) rfl rfl)<|Ac rfl<|Bn (s:=11) rfl h (fun d0 h=>?_) (fun d0 h=>?_)
 refine Al (AK rfl (b0.memA .hd))<|Al (AL (vs:=[]) (u:=.agg #[vW 0]) aj (fun p=>by kernel_rfl))<|Al (FV.eqlV (v:=.agg #[vU a1.fc]) (u:=.agg #[vW 0]) rfl rfl (bD a1.fc (0:UInt64)))<|Bd rfl rfl<|Ac rfl<|Bn (s:=16) rfl h (fun g0 h=>?_) (fun g0 h=>?_)
 refine Al (Ag rfl)<|Al (AM rfl ((fun j9 v9 h9=>b0.ag.cell0 (m3 j9 v9 h9)) 0 _ rfl))<|Al (Br (i:=a2) (j:=a3) rfl rfl)<|Bd rfl rfl<|Ae rfl<|Aa<|Aq rfl<|AQ hb0 func43 rfl rfl ?_
 cases h
 exact b0.gv
 refine Ah<|Ah<|Ah<|Bb rfl rfl<|Ae rfl<|Aa<|Aq rfl<|AQ hb0 func43 rfl rfl ?_
 cases h
 exact b0.gv
 refine Ah<|Ah<|Ah<|Bb rfl rfl<|Ac rfl<|Ah<|Ah<|Ah<|Bb rfl rfl<|Ae rfl<|Aa<|Aq rfl<|AQ hb0 func43 rfl rfl ?_
 cases h
 exact b0.gv
theorem bw_c (_n:Nat) {L w} (_hL:hl L w) (a0:Int)  :
 Cl 19 #[vI a0] w (ah w fun w' u=>∃ b0:Nat,u = .func (.func 43) #[] #[vP b0]/\St w w' [.cells b0 [vI a0] 42]):=by
 refine AG func19 rfl rfl rfl fun _ cs0 hb0=>Af<|RG.bx (AF w) rfl rfl fun g0 b0 c0 d0=>Ae rfl<|Aa<|Af<|Ab (FV.makeFunc (vs:=[]) (us:=[vP b0]) aj (e1 rfl))<|Ae rfl<|Aa<|Aq rfl<|Av (u:=.func (.func 43) #[] #[vP b0]) hb0 func19 rfl (.cons (.tmp rfl) .nil) rfl<|⟨c0.ag,fun p q=>⟨b0,rfl,c0.agree q⟩⟩
end Go.Proofs.YtlleajifdbnbaaaGreatDoor
