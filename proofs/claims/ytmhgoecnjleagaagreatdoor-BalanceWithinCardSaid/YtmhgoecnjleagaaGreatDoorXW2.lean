/- Functions of the program, and what they give: part 2. -/
import Derived.Test.YtmhgoecnjleagaaGreatDoorXW1
namespace Go.Proofs.YtmhgoecnjleagaaGreatDoor
open Go Go.RowKit
set_option maxRecDepth 4000
set_option maxHeartbeats 4000000

structure TLong where
  fBelow:Bool
  fWords:List UInt64
  deriving DecidableEq
instance:Rep TLong:=Rep.via (β:=Bool × (List UInt64)) fun x=>(x.fBelow,x.fWords)
def tb166_4:List (Nat × Nat × Nat):=[(0,8192,16),(1,16384,8192),(0,32768,2),(4,65536,32768),(10,131072,81920)]
theorem body193:bodyB Tryz.prog 193 = true:=by kernel_rfl
def wide_Long_Told_p (n:Nat) (a0:TLong):Option ((UInt64 × UInt64 × UInt64 × UInt64 × UInt64 × UInt64 × UInt64 × UInt64) × Int):=
  (if 8 < a0.fWords.length then some (((0:UInt64),(0:UInt64),(0:UInt64),(0:UInt64),(0:UInt64),(0:UInt64),(0:UInt64),(0:UInt64)),(6:Int)) else (wide_Number_Told_p n (⟨a0.fBelow,(getA a0.fWords 0 (0:UInt64),getA a0.fWords 1 (0:UInt64),getA a0.fWords 2 (0:UInt64),getA a0.fWords 3 (0:UInt64),getA a0.fWords 4 (0:UInt64),getA a0.fWords 5 (0:UInt64),getA a0.fWords 6 (0:UInt64),getA a0.fWords 7 (0:UInt64))⟩:TNumber)).bind fun b0=>some (b0.1,b0.2))
theorem wide_Long_Told_c (n:Nat) (L:List Nat) (w:World) (hL:∀ b ∈ L,b < w.heap.size) (a0:TLong) {v0_1:Value} (h0_1:Rep.R w L [v0_1] a0.fWords)  {r:(UInt64 × UInt64 × UInt64 × UInt64 × UInt64 × UInt64 × UInt64 × UInt64) × Int} (h:wide_Long_Told_p n a0 = some r) :
    Calls Tryz.prog 166 #[.agg #[.bool a0.fBelow,v0_1]] w (Gives w fun _ u=>u = .tuple #[.agg ((cs_A34 r.1)).toArray,vI r.2]):=by
 unfold wide_Long_Told_p at h
 have hS0:=Ax w
 refine AA Tryz.func166 rfl rfl rfl (fun _ cs0 hb0=>?_)
 refine Ac<|Aj .plain rfl (Aw hS0 rfl rfl) (fun P0 B0 v0 D0=>?_)
 refine Aj .plain rfl (Av zP v0) (fun Q0 C0 c0 E0=>?_)
 refine Ag rfl<|Aa<|Ak<|Ac<|Bg 1 rfl<|Bd rfl ((c0.memA (.tl .hd)) 1 _ rfl) ?_
 have s0:=AM h0_1 c0
 have K0:a0.fWords.length ≤ 281474976710656:=AT s0
 refine Ab (Bb (xs:=a0.fWords) Tryz.underlying121 rfl s0)<|Ab (FV.gtrN (i:=a0.fWords.length) (j:=8) rfl rfl)<|Aa<|AQ rfl h (fun u0 h=>?_) (fun u0 h=>?_)
 refine Ac<|Ab (AS (vs:=[]) (u:=.agg zQ) evs_nil (fun w9=>by kernel_rfl))<|AL zP c0 .hd (onesB rfl) (fun R0 p0 F0=>?_)
 refine Ag rfl<|Aa<|Al rfl<|Ao hb0 Tryz.func166 rfl (.cons (.many (cs:=zP) (by kernel_rfl) rfl (p0.memA .hd)) (.cons (.tmp rfl) .nil)) rfl ?_
 cases h
 exact p0.gv
 refine Aq<|Ac<|Bg 0 rfl<|Bd rfl ((c0.memA (.tl .hd)) 0 _ rfl)<|Ab (AS (vs:=[.bool a0.fBelow]) (u:=.agg #[.bool a0.fBelow,vW 0,vW 0,vW 0,vW 0,vW 0,vW 0,vW 0,vW 0]) (e1 rfl) (fun w9=>by kernel_rfl))<|Aj .plain rfl (Av [.bool false,vW 0,vW 0,vW 0,vW 0,vW 0,vW 0,vW 0,vW 0] c0) (fun U0 t0 x0 G0=>?_)
 refine AL [.bool a0.fBelow,vW 0,vW 0,vW 0,vW 0,vW 0,vW 0,vW 0,vW 0] x0 .hd (onesB rfl) (fun V0 j0 H0=>?_)
 refine Aa<|Ak<|AF 4 tb166_4 (by kernel_rfl) (by kernel_rfl) (by kernel_rfl) (fun b0 d0=>?_)
 refine Ah 0 1 b0 rfl d0 (fun _=>Bh 1 rfl) rfl<|AD 1 3 16 b0 rfl d0 (FV.sliceA (len:=8) (m:=1) (p:=Addr.add ⟨t0,0,none⟩ 1) (by kernel_rfl) rfl) rfl<|Ah 2 7 b0 rfl d0 (fun _=>Bh 1 rfl) rfl<|AD 3 15 16 b0 rfl d0 (AK rfl ((j0.memA (.tl (.tl .hd))) 1 _ rfl)) rfl ?_
 have y0:=AM h0_1 j0
 refine Bs (i:=4) (readyD_ok b0 (by kernel_rfl)) (RO.doesL (m' :=31) (stepC_ok b0 (by kernel_rfl)) rfl rfl .plain rfl (DoesL.copyArr (fun z9:UInt64=>(vU z9:Value)) (olds:=([(0:UInt64),(0:UInt64),(0:UInt64),(0:UInt64),(0:UInt64),(0:UInt64),(0:UInt64),(0:UInt64)]:List UInt64)) (ys:=a0.fWords) (pre:=[.bool a0.fBelow]) (post:=[]) (old:=[.bool a0.fBelow,vW 0,vW 0,vW 0,vW 0,vW 0,vW 0,vW 0,vW 0]) (new' :=[.bool a0.fBelow,vW ((getA a0.fWords 0 (0:UInt64)).toNat:Int),vW ((getA a0.fWords 1 (0:UInt64)).toNat:Int),vW ((getA a0.fWords 2 (0:UInt64)).toNat:Int),vW ((getA a0.fWords 3 (0:UInt64)).toNat:Int),vW ((getA a0.fWords 4 (0:UInt64)).toNat:Int),vW ((getA a0.fWords 5 (0:UInt64)).toNat:Int),vW ((getA a0.fWords 6 (0:UInt64)).toNat:Int),vW ((getA a0.fWords 7 (0:UInt64)).toNat:Int)]) rfl (fun _ _ _ _ h9=>h9) j0 .hd (by kernel_rfl) rfl rfl rfl rfl rfl rfl rfl (Src.rep y0)) (fun M0 W0 ⟨z0,k0,I0⟩=>?_))
 subst z0
 refine AE (doneD_ok b0 (by kernel_rfl))<|Ac<|Ab (AB rfl (k0.memA .hd)) ?_
 obtain ⟨g0,A0,h⟩:=bi h
 refine Bf (.tuple #[.agg ((cs_A34 g0.1)).toArray,vI g0.2]) body193 rfl (e1 rfl) (fun w9 hw9=>wide_Number_Told_c n _ w9 (k0.hL0 hL hw9) (⟨a0.fBelow,(getA a0.fWords 0 (0:UInt64),getA a0.fWords 1 (0:UInt64),getA a0.fWords 2 (0:UInt64),getA a0.fWords 3 (0:UInt64),getA a0.fWords 4 (0:UInt64),getA a0.fWords 5 (0:UInt64),getA a0.fWords 6 (0:UInt64),getA a0.fWords 7 (0:UInt64))⟩:TNumber) A0) rfl<|Ab (Af rfl rfl)<|Ab (Af rfl rfl)<|AL (cs_A34 g0.1) k0 (.tl .hd) (onesB rfl) (fun X0 q0 J0=>?_)
 refine Ag rfl<|Aa<|Al rfl<|Ao hb0 Tryz.func166 rfl (.cons (.many (cs:=(cs_A34 g0.1)) (by kernel_rfl) rfl (q0.memA (.tl .hd))) (.cons (.tmp rfl) .nil)) rfl ?_
 cases h
 exact q0.gv
structure TRatio where
  fLong:TLong
  fUnder:TLong
  deriving DecidableEq
instance:Rep TRatio:=Rep.via (β:=TLong × TLong) fun x=>(x.fLong,x.fUnder)
structure TShare where
  fN:UInt64 × UInt64 × UInt64 × UInt64 × UInt64 × UInt64 × UInt64 × UInt64
  fD:UInt64 × UInt64 × UInt64 × UInt64 × UInt64 × UInt64 × UInt64 × UInt64
  deriving DecidableEq
instance:Rep TShare:=Rep.via (β:=(UInt64 × UInt64 × UInt64 × UInt64 × UInt64 × UInt64 × UInt64 × UInt64) × (UInt64 × UInt64 × UInt64 × UInt64 × UInt64 × UInt64 × UInt64 × UInt64)) fun x=>(x.fN,x.fD)
def cs_TShare (x:TShare):List Value:=[vU x.fN.1,vU x.fN.2.1,vU x.fN.2.2.1,vU x.fN.2.2.2.1,vU x.fN.2.2.2.2.1,vU x.fN.2.2.2.2.2.1,vU x.fN.2.2.2.2.2.2.1,vU x.fN.2.2.2.2.2.2.2,vU x.fD.1,vU x.fD.2.1,vU x.fD.2.2.1,vU x.fD.2.2.2.1,vU x.fD.2.2.2.2.1,vU x.fD.2.2.2.2.2.1,vU x.fD.2.2.2.2.2.2.1,vU x.fD.2.2.2.2.2.2.2]
theorem body166:bodyB Tryz.prog 166 = true:=by kernel_rfl
def share_Ratio_Told_p (n:Nat) (a0:TRatio):Option (TShare × Int):=
  (wide_Long_Told_p n a0.fLong).bind fun b0=>(wide_Long_Told_p n a0.fUnder).bind fun c0=>(if b0.2 = 0 then (if c0.2 = 0 then some ((⟨b0.1,c0.1⟩:TShare),(0:Int)) else some ((⟨((0:UInt64),(0:UInt64),(0:UInt64),(0:UInt64),(0:UInt64),(0:UInt64),(0:UInt64),(0:UInt64)),((0:UInt64),(0:UInt64),(0:UInt64),(0:UInt64),(0:UInt64),(0:UInt64),(0:UInt64),(0:UInt64))⟩:TShare),(6:Int))) else some ((⟨((0:UInt64),(0:UInt64),(0:UInt64),(0:UInt64),(0:UInt64),(0:UInt64),(0:UInt64),(0:UInt64)),((0:UInt64),(0:UInt64),(0:UInt64),(0:UInt64),(0:UInt64),(0:UInt64),(0:UInt64),(0:UInt64))⟩:TShare),(6:Int)))
theorem share_Ratio_Told_c (n:Nat) (L:List Nat) (w:World) (hL:∀ b ∈ L,b < w.heap.size) (a0:TRatio) {v0_1:Value} (h0_1:Rep.R w L [v0_1] a0.fLong.fWords) {v0_3:Value} (h0_3:Rep.R w L [v0_3] a0.fUnder.fWords)  {r:TShare × Int} (h:share_Ratio_Told_p n a0 = some r) :
    Calls Tryz.prog 129 #[.agg #[.bool a0.fLong.fBelow,v0_1,.bool a0.fUnder.fBelow,v0_3]] w (Gives w fun _ u=>u = .tuple #[.agg ((cs_TShare r.1)).toArray,vI r.2]):=by
 unfold share_Ratio_Told_p at h
 have hS0:=Ax w
 refine AA Tryz.func129 rfl rfl rfl (fun _ cs0 hb0=>?_)
 refine Ac<|Aj .plain rfl (Aw hS0 rfl rfl) (fun R0 B0 v0 F0=>?_)
 refine Aj .plain rfl (Av zL v0) (fun U0 C0 g0 G0=>?_)
 refine Ag rfl<|Aa<|Ac<|Bg 0 rfl<|Ab (Bl (cs:=[.bool a0.fLong.fBelow,v0_1]) (by kernel_rfl) rfl (mem_part (g0.memA (.tl .hd)) 0 2)) ?_
 obtain ⟨b0,z0,h⟩:=bi h
 refine Bf (.tuple #[.agg ((cs_A34 b0.1)).toArray,vI b0.2]) body166 rfl (e1 rfl) (fun w9 hw9=>wide_Long_Told_c n _ w9 (g0.hL0 hL hw9) a0.fLong (g0.k0 h0_1 hw9) z0) rfl<|Ae rfl<|Ab (Af rfl rfl)<|Ab (Af rfl rfl)<|Aj .plain rfl (Av zP g0) (fun V0 D0 x0 H0=>?_)
 refine AL (cs_A34 b0.1) x0 .hd (onesB rfl) (fun W0 j0 I0=>?_)
 refine Ag rfl<|Aa<|Ac<|Bg 2 rfl<|Ab (Bl (cs:=[.bool a0.fUnder.fBelow,v0_3]) (by kernel_rfl) rfl (mem_part (j0.memA (.tl (.tl .hd))) 2 2)) ?_
 obtain ⟨c0,A0,h⟩:=bi h
 refine Bf (.tuple #[.agg ((cs_A34 c0.1)).toArray,vI c0.2]) body166 rfl (e1 rfl) (fun w9 hw9=>wide_Long_Told_c n _ w9 (j0.hL0 hL hw9) a0.fUnder (j0.k0 h0_3 hw9) A0) rfl<|Ae rfl<|Ab (Af rfl rfl)<|Ab (Af rfl rfl)<|Aj .plain rfl (Av zP j0) (fun X0 E0 y0 J0=>?_)
 refine AL (cs_A34 c0.1) y0 .hd (onesB rfl) (fun Y0 d0 K0=>?_)
 refine Ag rfl<|Aa<|Ak<|Ac<|Ae rfl<|Ab (FV.neq (i:=b0.2) (j:=0) rfl rfl)<|Ae rfl<|RG.ifn (s:=22) rfl h (fun t0 h=>?_) (fun t0 h=>?_)
 refine AY (Ai rfl)<|AY (FV.neq (i:=c0.2) (j:=0) rfl rfl)<|RG.pf rfl rfl<|Aa<|MX.ifn rfl h (fun u0 h=>?_) (fun u0 h=>?_)
 refine Aq<|Ac<|Ab (AB rfl (d0.memA (.tl .hd)))<|Ab (AB rfl (d0.memA .hd))<|Ab (AS (vs:=[.agg ((cs_A34 b0.1)).toArray,.agg ((cs_A34 c0.1)).toArray]) (u:=.agg ((cs_A34 b0.1 ++ cs_A34 c0.1)).toArray) (e2 rfl rfl) (fun w9=>by kernel_rfl))<|AL (cs_A34 b0.1 ++ cs_A34 c0.1) d0 (.tl (.tl .hd)) (onesB rfl) (fun Z0 p0 M0=>?_)
 refine Ag rfl<|Aa<|Al rfl<|Ao hb0 Tryz.func129 rfl (.cons (.many (cs:=(cs_A34 b0.1 ++ cs_A34 c0.1)) (by kernel_rfl) rfl (p0.memA (.tl (.tl .hd)))) (.cons (.tmp rfl) .nil)) rfl ?_
 cases h
 exact p0.gv
 refine Ac<|Ab (AS (vs:=[]) (u:=.agg zM) evs_nil (fun w9=>by kernel_rfl))<|AL zL d0 (.tl (.tl .hd)) (onesB rfl) (fun b1 q0 P0=>?_)
 refine Ag rfl<|Aa<|Al rfl<|Ao hb0 Tryz.func129 rfl (.cons (.many (cs:=zL) (by kernel_rfl) rfl (q0.memA (.tl (.tl .hd)))) (.cons (.tmp rfl) .nil)) rfl ?_
 cases h
 exact q0.gv
 refine AR<|AR<|RG.pt rfl rfl<|Aa<|Bp rfl<|Ac<|Ab (AS (vs:=[]) (u:=.agg zM) evs_nil (fun w9=>by kernel_rfl))<|AL zL d0 (.tl (.tl .hd)) (onesB rfl) (fun c1 s0 Q0=>?_)
 refine Ag rfl<|Aa<|Al rfl<|Ao hb0 Tryz.func129 rfl (.cons (.many (cs:=zL) (by kernel_rfl) rfl (s0.memA (.tl (.tl .hd)))) (.cons (.tmp rfl) .nil)) rfl ?_
 cases h
 exact s0.gv
theorem body129:bodyB Tryz.prog 129 = true:=by kernel_rfl
def share_told_p (n:Nat) (a0:TRatio) (a1:Int):Option (TShare × Int):=
  (if a1 = 0 then (share_Ratio_Told_p n a0).bind fun b0=>some (b0.1,b0.2) else some ((⟨((0:UInt64),(0:UInt64),(0:UInt64),(0:UInt64),(0:UInt64),(0:UInt64),(0:UInt64),(0:UInt64)),((0:UInt64),(0:UInt64),(0:UInt64),(0:UInt64),(0:UInt64),(0:UInt64),(0:UInt64),(0:UInt64))⟩:TShare),a1))
theorem share_told_c (n:Nat) (L:List Nat) (w:World) (hL:∀ b ∈ L,b < w.heap.size) (a0:TRatio) {v0_1:Value} (h0_1:Rep.R w L [v0_1] a0.fLong.fWords) {v0_3:Value} (h0_3:Rep.R w L [v0_3] a0.fUnder.fWords) (a1:Int)  {r:TShare × Int} (h:share_told_p n a0 a1 = some r) :
    Calls Tryz.prog 79 #[.agg #[.bool a0.fLong.fBelow,v0_1,.bool a0.fUnder.fBelow,v0_3],vI a1] w (Gives w fun _ u=>u = .tuple #[.agg ((cs_TShare r.1)).toArray,vI r.2]):=by
 unfold share_told_p at h
 have hS0:=Ax w
 refine AA Tryz.func79 rfl rfl rfl (fun _ cs0 hb0=>?_)
 refine Ac<|Aj .plain rfl (Aw hS0 rfl rfl) (fun z0 s0 p0 u0=>?_)
 refine Aj .plain rfl (Av zL p0) (fun A0 t0 b0 v0=>?_)
 refine Ag rfl<|Aa<|Ak<|Ac<|Ae rfl<|Ab (FV.neq (i:=a1) (j:=0) rfl rfl)<|Aa<|MX.ifn rfl h (fun j0 h=>?_) (fun j0 h=>?_)
 refine Aq<|Ac<|Ab (AB rfl (b0.memA (.tl .hd))) ?_
 obtain ⟨c0,q0,h⟩:=bi h
 refine Bf (.tuple #[.agg ((cs_TShare c0.1)).toArray,vI c0.2]) body129 rfl (e1 rfl) (fun w9 hw9=>share_Ratio_Told_c n _ w9 (b0.hL0 hL hw9) a0 (b0.k0 h0_1 hw9) (b0.k0 h0_3 hw9) q0) rfl<|Ab (Af rfl rfl)<|Ab (Af rfl rfl)<|AL (cs_TShare c0.1) b0 .hd (onesB rfl) (fun B0 d0 x0=>?_)
 refine Ag rfl<|Aa<|Al rfl<|Ao hb0 Tryz.func79 rfl (.cons (.many (cs:=(cs_TShare c0.1)) (by kernel_rfl) rfl (d0.memA .hd)) (.cons (.tmp rfl) .nil)) rfl ?_
 cases h
 exact d0.gv
 refine Ac<|Ab (AS (vs:=[]) (u:=.agg zM) evs_nil (fun w9=>by kernel_rfl))<|Ae rfl<|AL zL b0 .hd (onesB rfl) (fun C0 g0 y0=>?_)
 refine Ag rfl<|Aa<|Al rfl<|Ao hb0 Tryz.func79 rfl (.cons (.many (cs:=zL) (by kernel_rfl) rfl (g0.memA .hd)) (.cons (.tmp rfl) .nil)) rfl ?_
 cases h
 exact g0.gv
def wide_trimmed_l1 (_n:Nat) (a1:List UInt64) (c0:Int → Option Int):Int → Option Int
  | b0=>(if 0 < b0 then (chk (b0 - 1)).bind fun d0=>(idx a1 d0).bind fun j0=>(if j0 = (0:UInt64) then (chk (b0 - 1)).bind fun g0=>c0 g0 else some b0) else some b0)
def wide_trimmed_p (n:Nat) (a0:Bool) (a1:List UInt64):Option TLong:=
  jn (fun b0=>(if a0 = true then (cut a1 0 b0).bind fun d0=>some (⟨(decide (0 < b0)),d0⟩:TLong) else (cut a1 0 b0).bind fun g0=>some (⟨false,g0⟩:TLong))) (fun c0=>Option.bind (loopF (wide_trimmed_l1 n a1) n ((a1.length:Nat):Int)) (c0))
theorem wide_trimmed_c (n:Nat) (L:List Nat) (w:World) (_hL:∀ b ∈ L,b < w.heap.size) (a0:Bool) (a1:List UInt64) {v1_0:Value} (h1_0:Rep.R w L [v1_0] a1)  {r:TLong} (h:wide_trimmed_p n a0 a1 = some r) :
    Calls Tryz.prog 169 #[.bool a0,v1_0] w (Gives w fun w' u=>∃ v0_1:Value,u = .agg #[.bool r.fBelow,v0_1]∧Rep.R w' L [v0_1] r.fWords):=by
 unfold wide_trimmed_p at h
 have hS0:=Ax w
 refine AA Tryz.func169 rfl rfl rfl (fun _ cs0 hb0=>?_)
 refine Ac<|Aj .plain rfl (Av [.bool false,vN] hS0) (fun D0 d0 A0 H1=>?_)
 refine Aa<|Ac<|Ae rfl ?_
 have C0:=AM h1_0 A0
 have I1:a1.length ≤ 281474976710656:=AT C0
 refine Ab (Bb (xs:=a1) Tryz.underlying121 rfl C0)<|Ag rfl<|Aa<|Ak<|Az<|MX.joinx (α:=Int) (fun b0=>[(0,.bool a0),(1,v1_0),(4,vP d0),(5,vI b0)]) (fun b0 x0=>St w x0 [.cells d0 [.bool false,vN] 123]∧Tr D0 [.cells d0 [.bool false,vN] 123] x0 [.cells d0 [.bool false,vN] 123]) (fun b0=>b0) (id:=0) rfl h ?_ ?_
 rintro b0 x0 ⟨k0,G1⟩ h
 try dsimp only at h
 refine Ac<|Ae rfl<|Ae rfl<|RG.ifb (s:=21) rfl h (fun F0 h=>?_) (fun F0 h=>?_)
 refine AY (Ai rfl)<|AY (FV.gtr (i:=b0) (j:=0) rfl rfl)<|RG.pt rfl rfl<|Ae rfl<|Ae rfl ?_
 obtain ⟨P1,t1,h⟩:=bi h
 have V0:=AM h1_0 k0
 refine RG.valE .plain rfl (FV.cutL (α:=UInt64) t1 (by kernel_rfl) rfl V0 rfl ⟨_,rfl⟩) (fun g0 u0=>?_)
 obtain ⟨y1,D1,k1,_⟩:=Rep.sl u0
 refine Ab (AS (vs:=[.bool (decide (0 < b0)),g0]) (u:=.agg #[.bool (decide (0 < b0)),g0]) (e2 rfl rfl) (fun w9=>by rw [k1]; try kernel_rfl))<|AL [.bool (decide (0 < b0)),g0] k0 .hd (o2 rfl (AI u0)) (fun K1 q0 K0=>?_)
 refine Aa<|Al rfl<|Ao hb0 Tryz.func169 rfl (.cons (.many (cs:=[.bool (decide (0 < b0)),g0]) (by kernel_rfl) rfl (q0.memA .hd)) .nil) rfl ?_
 cases h
 have W0:=Ap u0 K0
 exact ⟨q0.ag,fun w9 hw9=>⟨g0,rfl,q0.kd W0 hw9⟩⟩
 refine AR<|AR<|RG.pf rfl rfl<|Ae rfl<|Ae rfl ?_
 obtain ⟨Q1,u1,h⟩:=bi h
 have X0:=AM h1_0 k0
 refine RG.valE .plain rfl (FV.cutL (α:=UInt64) u1 (by kernel_rfl) rfl X0 rfl ⟨_,rfl⟩) (fun j0 v0=>?_)
 obtain ⟨z1,E1,p1,_⟩:=Rep.sl v0
 refine Ab (AS (vs:=[.bool false,j0]) (u:=.agg #[.bool false,j0]) (e2 rfl rfl) (fun w9=>by rw [p1]; try kernel_rfl))<|AL [.bool false,j0] k0 .hd (o2 rfl (AI v0)) (fun M1 s0 M0=>?_)
 refine Aa<|Al rfl<|Ao hb0 Tryz.func169 rfl (.cons (.many (cs:=[.bool false,j0]) (by kernel_rfl) rfl (s0.memA .hd)) .nil) rfl ?_
 cases h
 have Y0:=Ap v0 M0
 exact ⟨s0.ag,fun w9 hw9=>⟨j0,rfl,s0.kd Y0 hw9⟩⟩
 intro B1 z0 h
 try dsimp only at h
 obtain ⟨J1,c1,B0⟩:=bind_in2 h
 refine Bj (α:=Int) (fun c0=>[(0,.bool a0),(1,v1_0),(4,vP d0),(5,vI c0)]) (fun c0 y0=>St w y0 [.cells d0 [.bool false,vN] 123]∧Tr D0 [.cells d0 [.bool false,vN] 123] y0 [.cells d0 [.bool false,vN] 123]) (fun c0=>c0) ((a1.length:Nat):Int) c1 ⟨rfl,rfl,rfl,rfl,trivial⟩ ⟨A0,AP _ _⟩ ?_
 rintro C1 c0 y0 J0 ⟨p0,t0⟩ h
 unfold wide_trimmed_l1 at h
 try dsimp only at h
 refine Ak<|Ac<|Ae rfl<|Ab (FV.gtr (i:=c0) (j:=0) rfl rfl)<|Ae rfl<|RG.ifd (s:=10) rfl h (fun G0 h=>?_) (fun G0 h=>?_)
 refine AY (Ai rfl)<|AY (Ai rfl) ?_
 obtain ⟨v1,g1,h⟩:=bi h
 refine AY (FV.subc (i:=c0) (j:=1) rfl rfl g1) ?_
 obtain ⟨E0,q1,h⟩:=bi h
 obtain ⟨R0,s1⟩:=idx_in q1
 have b1:=AM h1_0 p0
 obtain ⟨A1,F1,P0,U0,I0,d1,Z0⟩:=Bm b1 s1
 have Q0:I0 = [vU E0]:=d1; subst Q0
 refine AY (Bo 1 (v1.toNat) rfl P0 rfl R0 U0)<|AY (AK rfl (Z0 0 _ rfl))<|AY (FV.eqlU (a:=E0) (b:=(0:UInt64)) rfl rfl)<|RG.pt rfl rfl<|Aa<|AQ rfl h (fun H0 h=>?_) (fun H0 h=>?_)
 refine Aq<|Az<|Ar<|Ae rfl ?_
 obtain ⟨x1,j1,h⟩:=bi h
 refine Ab (FV.subc (i:=c0) (j:=1) rfl rfl j1)<|Ag rfl<|Aa<|AC ?_
 exact J0 x1 _ _ ⟨rfl,rfl,rfl,rfl,trivial⟩ ⟨p0,t0⟩ h
 refine Be rfl ?_
 have h:=B0 _ h
 try dsimp only at h
 exact z0 c0 _ _ ⟨rfl,rfl,rfl,rfl,trivial⟩ ⟨p0,t0⟩ h
 refine AR<|AR<|AR<|AR<|AR<|AR<|RG.pf rfl rfl<|Aa<|Bv rfl<|Be rfl ?_
 have h:=B0 _ h
 try dsimp only at h
 exact z0 c0 _ _ ⟨rfl,rfl,rfl,rfl,trivial⟩ ⟨p0,t0⟩ h
def wide_Read_p (n:Nat) (a0:UInt64 × UInt64 × UInt64 × UInt64 × UInt64 × UInt64 × UInt64 × UInt64):Option TNumber:=
  (if (shrU a0.2.2.2.2.2.2.2 63) = (1:UInt64) then (wide_Size_minus_p n ((0:UInt64),(0:UInt64),(0:UInt64),(0:UInt64),(0:UInt64),(0:UInt64),(0:UInt64),(0:UInt64)) a0).bind fun b0=>some (⟨(decide ((shrU a0.2.2.2.2.2.2.2 63) = (1:UInt64))),b0.1⟩:TNumber) else some (⟨(decide ((shrU a0.2.2.2.2.2.2.2 63) = (1:UInt64))),a0⟩:TNumber))
theorem wide_Read_c (n:Nat) (L:List Nat) (w:World) (hL:∀ b ∈ L,b < w.heap.size) (a0:UInt64 × UInt64 × UInt64 × UInt64 × UInt64 × UInt64 × UInt64 × UInt64)  {r:TNumber} (h:wide_Read_p n a0 = some r) :
    Calls Tryz.prog 192 #[.agg ((cs_A34 a0)).toArray] w (Gives w fun _ u=>u = .agg ((cs_TNumber r)).toArray):=by
 unfold wide_Read_p at h
 have hS0:=Ax w
 refine AA Tryz.func192 rfl rfl rfl (fun _ cs0 hb0=>?_)
 refine Ac<|Aj .plain rfl (Aw hS0 rfl rfl) (fun F0 u0 q0 y0=>?_)
 refine Aj .plain rfl (Av [.bool false,vW 0,vW 0,vW 0,vW 0,vW 0,vW 0,vW 0,vW 0] q0) (fun G0 v0 d0 z0=>?_)
 refine Aa<|Ac<|Ab (AZ (m:=1) (k:=7) (len:=8) (by kernel_rfl) rfl rfl rfl (by omega))<|Bd rfl ((d0.memA (.tl .hd)) 7 _ rfl)<|Ab (FV.shrU (a:=a0.2.2.2.2.2.2.2) (j:=63) rfl rfl)<|Ab (FV.eqlU (a:=shrU a0.2.2.2.2.2.2.2 63) (b:=(1:UInt64)) rfl rfl)<|Ab (AB rfl (d0.memA (.tl .hd)))<|Ab (AS (vs:=[.bool (decide ((shrU a0.2.2.2.2.2.2.2 63) = (1:UInt64))),.agg ((cs_A34 a0)).toArray]) (u:=.agg ((([.bool (decide ((shrU a0.2.2.2.2.2.2.2 63) = (1:UInt64)))]:List Value) ++ cs_A34 a0)).toArray) (e2 rfl rfl) (fun w9=>by kernel_rfl))<|Aj .plain rfl (Av [.bool false,vW 0,vW 0,vW 0,vW 0,vW 0,vW 0,vW 0,vW 0] d0) (fun H0 x0 s0 A0=>?_)
 refine AL (([.bool (decide ((shrU a0.2.2.2.2.2.2.2 63) = (1:UInt64)))]:List Value) ++ cs_A34 a0) s0 .hd (onesB rfl) (fun I0 b0 B0=>?_)
 refine Aa<|Ak<|Ac<|Bg 0 rfl<|Bd rfl ((b0.memA .hd) 0 _ rfl)<|Aa<|AQ rfl h (fun p0 h=>?_) (fun p0 h=>?_)
 refine Ar<|Ab (AS (vs:=[]) (u:=.agg zQ) evs_nil (fun w9=>by kernel_rfl))<|Bg 1 rfl<|Ab (Bl (cs:=(cs_A34 a0)) (by kernel_rfl) rfl (mem_part (b0.memA .hd) 1 8)) ?_
 obtain ⟨c0,t0,h⟩:=bi h
 refine Bf (.tuple #[.agg ((cs_A34 c0.1)).toArray,vU c0.2]) body212 rfl (e2 rfl rfl) (fun w9 hw9=>wide_Size_minus_c n _ w9 (b0.hL0 hL hw9) ((0:UInt64),(0:UInt64),(0:UInt64),(0:UInt64),(0:UInt64),(0:UInt64),(0:UInt64),(0:UInt64)) a0 t0) rfl<|Ae rfl<|Ab (Af rfl rfl)<|Ab (Af rfl rfl)<|Bg 1 rfl<|RG.now .plain (BH (j:=1) (old:=(([.bool (decide ((shrU a0.2.2.2.2.2.2.2 63) = (1:UInt64)))]:List Value) ++ cs_A34 a0)) (news:=(cs_A34 c0.1)) (new' :=(([.bool (decide ((shrU a0.2.2.2.2.2.2.2 63) = (1:UInt64)))]:List Value) ++ cs_A34 c0.1)) b0 .hd rfl rfl rfl rfl rfl rfl (onesB rfl) rfl) (fun J0 g0 C0=>?_)
 refine Aa<|Ac<|Ab (AB rfl (g0.memA .hd))<|AL (([.bool (decide ((shrU a0.2.2.2.2.2.2.2 63) = (1:UInt64)))]:List Value) ++ cs_A34 c0.1) g0 (.tl .hd) (onesB rfl) (fun K0 j0 D0=>?_)
 refine Aa<|Al rfl<|Ao hb0 Tryz.func192 rfl (.cons (.many (cs:=(([.bool (decide ((shrU a0.2.2.2.2.2.2.2 63) = (1:UInt64)))]:List Value) ++ cs_A34 c0.1)) (by kernel_rfl) rfl (j0.memA (.tl .hd))) .nil) rfl ?_
 cases h
 exact j0.gv
 refine Aq<|Ac<|Ab (AB rfl (b0.memA .hd))<|AL (([.bool (decide ((shrU a0.2.2.2.2.2.2.2 63) = (1:UInt64)))]:List Value) ++ cs_A34 a0) b0 (.tl .hd) (onesB rfl) (fun M0 k0 E0=>?_)
 refine Aa<|Al rfl<|Ao hb0 Tryz.func192 rfl (.cons (.many (cs:=(([.bool (decide ((shrU a0.2.2.2.2.2.2.2 63) = (1:UInt64)))]:List Value) ++ cs_A34 a0)) (by kernel_rfl) rfl (k0.memA (.tl .hd))) .nil) rfl ?_
 cases h
 exact k0.gv
def tb165_2:List (Nat × Nat × Nat):=[(0,64,8),(1,128,64),(0,256,0),(0,512,8),(8,1024,512),(20,2048,1280),(34,4096,2176),(127,0,4100)]
theorem el121:ElT Tryz.prog 121 33 (Rep.size UInt64) 8 (vW 0) [vW 0]:=⟨Tryz.underlying121,by kernel_rfl,rfl,rfl,rfl,rfl⟩
theorem body169:bodyB Tryz.prog 169 = true:=by kernel_rfl
theorem body192:bodyB Tryz.prog 192 = true:=by kernel_rfl
def wide_Longer_p (n:Nat) (a0:UInt64 × UInt64 × UInt64 × UInt64 × UInt64 × UInt64 × UInt64 × UInt64):Option TLong:=
  (wide_Read_p n a0).bind fun b0=>(app ([]:List UInt64) ([b0.fSize.1,b0.fSize.2.1,b0.fSize.2.2.1,b0.fSize.2.2.2.1,b0.fSize.2.2.2.2.1,b0.fSize.2.2.2.2.2.1,b0.fSize.2.2.2.2.2.2.1,b0.fSize.2.2.2.2.2.2.2]:List UInt64)).bind fun c0=>(wide_trimmed_p n b0.fBelow c0).bind fun d0=>some d0
theorem wide_Longer_c (n:Nat) (L:List Nat) (w:World) (hL:∀ b ∈ L,b < w.heap.size) (a0:UInt64 × UInt64 × UInt64 × UInt64 × UInt64 × UInt64 × UInt64 × UInt64)  {r:TLong} (h:wide_Longer_p n a0 = some r) :
    Calls Tryz.prog 165 #[.agg ((cs_A34 a0)).toArray] w (Gives w fun w' u=>∃ v0_1:Value,u = .agg #[.bool r.fBelow,v0_1]∧Rep.R w' L [v0_1] r.fWords):=by
 unfold wide_Longer_p at h
 have hS0:=Ax w
 refine AA Tryz.func165 rfl rfl rfl (fun _ cs0 hb0=>?_)
 refine Ac<|Aj .plain rfl (Aw hS0 rfl rfl) (fun P1 V0 X0 E1=>?_)
 refine Aj .plain rfl (Av [.bool false,vN] X0) (fun U1 q0 F0 I1=>?_)
 refine Aa<|Ac<|Ab (AB rfl (F0.memA (.tl .hd))) ?_
 obtain ⟨b0,B1,h⟩:=bi h
 refine Bf (.agg ((cs_TNumber b0)).toArray) body192 rfl (e1 rfl) (fun w9 hw9=>wide_Read_c n _ w9 (F0.hL0 hL hw9) a0 B1) rfl<|Aj .plain rfl (Av [.bool false,vW 0,vW 0,vW 0,vW 0,vW 0,vW 0,vW 0,vW 0] F0) (fun V1 J0 d1 J1=>?_)
 refine AL (cs_TNumber b0) d1 .hd (onesB rfl) (fun C1 G0 K1=>?_)
 refine Aa<|Ak<|AF 5 tb165_2 (by kernel_rfl) (by kernel_rfl) (by kernel_rfl) (fun c0 z0=>?_)
 refine Ah 0 1 c0 rfl z0 (fun _=>Bh 0 rfl) rfl<|Ah 3 9 c0 rfl z0 (fun _=>Bh 1 rfl) rfl<|AD 4 25 224 c0 rfl z0 (FV.sliceA (len:=8) (m:=1) (p:=Addr.add ⟨J0,0,none⟩ 1) (by kernel_rfl) rfl) rfl ?_
 obtain ⟨p0,H0,h⟩:=bi h
 refine RD.meet (α:=Value × (List Value)) (fun ⟨g0,j0⟩=>[(2,vP q0),(7,.bool b0.fBelow),(11,g0)]) (fun ⟨g0,j0⟩ A0=>St w A0 [.row w.heap.size 33 (Rep.size UInt64) g0 p0.length j0,.cells q0 [.bool false,vN] 123]∧Tr C1 [.cells J0 (cs_TNumber b0) 217,.cells q0 [.bool false,vN] 123,.cells V0 (cs_A34 a0) 35] A0 [.row w.heap.size 33 (Rep.size UInt64) g0 p0.length j0,.cells q0 [.bool false,vN] 123]∧Cells A0 (bl [.row w.heap.size 33 (Rep.size UInt64) g0 p0.length j0,.cells q0 [.bool false,vN] 123] ++ L) j0 (p0:List UInt64)) 2 63 ?_ ?_
 rintro ⟨g0,j0⟩ A0 ⟨C0,F1,k1⟩
 try dsimp only
 have y1:=Bq (α:=UInt64) C0 .hd k1 hL
 have D0:=BD C0 .hd
 have G1:=BE C0 .hd
 have z1:=BF (α:=UInt64) (v:=g0) (xs:=p0) D0 L y1
 obtain ⟨U0,A1,h⟩:=bi h
 refine Bi 6 127 c0 rfl .plain body169 rfl (e2 rfl rfl) (fun w9 hw9=>wide_trimmed_c n _ w9 (D0.hL hL hw9) b0.fBelow p0 (Am z1 hw9) A1) rfl (fun Q1 M1 j1 ⟨I0,hu_,Q0⟩=>?_)
 subst hu_
 obtain ⟨Y0,H1⟩:=D0.agr j1
 refine Bt 7 255 c0 rfl rfl .plain (Ay (news:=[.bool U0.fBelow,I0]) Y0 .hd rfl rfl rfl rfl rfl rfl (o2 rfl (AI Q0))) (fun R1 E0 g1=>?_)
 refine AE (doneD_ok c0 (by kernel_rfl))<|Al rfl<|Ao hb0 Tryz.func165 rfl (.cons (.many (cs:=[.bool U0.fBelow,I0]) (by kernel_rfl) rfl (E0.memA .hd)) .nil) rfl ?_
 cases h
 have p1:=Ap Q0 g1
 exact ⟨E0.ag,fun w9 hw9=>⟨I0,rfl,E0.kd p1 hw9⟩⟩
 intro B0
 refine RD.each [1,2] (readyD_ok c0 (by kernel_rfl)) ⟨?_,?_,trivial⟩
 refine RO.val (m' :=27) (stepC_ok c0 (by kernel_rfl)) rfl .plain rfl (AK rfl ((G0.memA .hd) 0 _ rfl))<|RD.nu 2 31 c0 rfl .plain rfl (AW (α:=UInt64) (xs:=([]:List UInt64)) (vs:=[]) (ds' :=[]) rfl G0 el121 rfl evs_nil (by kernel_rfl) rfl) (fun D1 W0 d0 x0=>?_)
 have y0:=AG (cs:=[]) (xs:=(([]:List UInt64):List UInt64)) d0 L (AO _ _)
 refine Bs (i:=5) (readyD_ok c0 (by kernel_rfl)) (RO.doesL (m' :=63) (stepC_ok c0 (by kernel_rfl)) rfl rfl .plain rfl (BJ (α:=UInt64) (ys:=([b0.fSize.1,b0.fSize.2.1,b0.fSize.2.2.1,b0.fSize.2.2.2.1,b0.fSize.2.2.2.2.1,b0.fSize.2.2.2.2.2.1,b0.fSize.2.2.2.2.2.2.1,b0.fSize.2.2.2.2.2.2.2]:List UInt64)) H0 d0 (fun _ _=>.hd) el121 rfl rfl y0 (Src.arr (ds:=[vU b0.fSize.1,vU b0.fSize.2.1,vU b0.fSize.2.2.1,vU b0.fSize.2.2.2.1,vU b0.fSize.2.2.2.2.1,vU b0.fSize.2.2.2.2.2.1,vU b0.fSize.2.2.2.2.2.2.1,vU b0.fSize.2.2.2.2.2.2.2]) (ys:=([b0.fSize.1,b0.fSize.2.1,b0.fSize.2.2.1,b0.fSize.2.2.2.1,b0.fSize.2.2.2.2.1,b0.fSize.2.2.2.2.2.1,b0.fSize.2.2.2.2.2.2.1,b0.fSize.2.2.2.2.2.2.2]:List UInt64)) (n:=8) (mem_part (d0.memA (.tl .hd)) 1 8) (Au (cs:=[vU b0.fSize.1]) (ds:=[vU b0.fSize.2.1,vU b0.fSize.2.2.1,vU b0.fSize.2.2.2.1,vU b0.fSize.2.2.2.2.1,vU b0.fSize.2.2.2.2.2.1,vU b0.fSize.2.2.2.2.2.2.1,vU b0.fSize.2.2.2.2.2.2.2]) rfl (Au (cs:=[vU b0.fSize.2.1]) (ds:=[vU b0.fSize.2.2.1,vU b0.fSize.2.2.2.1,vU b0.fSize.2.2.2.2.1,vU b0.fSize.2.2.2.2.2.1,vU b0.fSize.2.2.2.2.2.2.1,vU b0.fSize.2.2.2.2.2.2.2]) rfl (Au (cs:=[vU b0.fSize.2.2.1]) (ds:=[vU b0.fSize.2.2.2.1,vU b0.fSize.2.2.2.2.1,vU b0.fSize.2.2.2.2.2.1,vU b0.fSize.2.2.2.2.2.2.1,vU b0.fSize.2.2.2.2.2.2.2]) rfl (Au (cs:=[vU b0.fSize.2.2.2.1]) (ds:=[vU b0.fSize.2.2.2.2.1,vU b0.fSize.2.2.2.2.2.1,vU b0.fSize.2.2.2.2.2.2.1,vU b0.fSize.2.2.2.2.2.2.2]) rfl (Au (cs:=[vU b0.fSize.2.2.2.2.1]) (ds:=[vU b0.fSize.2.2.2.2.2.1,vU b0.fSize.2.2.2.2.2.2.1,vU b0.fSize.2.2.2.2.2.2.2]) rfl (Au (cs:=[vU b0.fSize.2.2.2.2.2.1]) (ds:=[vU b0.fSize.2.2.2.2.2.2.1,vU b0.fSize.2.2.2.2.2.2.2]) rfl (Au (cs:=[vU b0.fSize.2.2.2.2.2.2.1]) (ds:=[vU b0.fSize.2.2.2.2.2.2.2]) rfl (Au (cs:=[vU b0.fSize.2.2.2.2.2.2.2]) (ds:=[]) rfl (AO _ _))))))))) rfl)) (fun v0 R0 ⟨s0,k0,t0,u0⟩=>?_))
 obtain ⟨Z0,K0⟩:=AH k0 (.one .hd (.one (.tl .hd) .done))
 have q1:=AN u0 K0
 have u1:=Tt x0 (Tt t0 K0)
 exact B0 (v0,s0) _ _ ⟨rfl,rfl,rfl,trivial⟩ ⟨Z0,u1,q1⟩
 refine RO.new (m' :=29) (stepC_ok c0 (by kernel_rfl)) rfl .plain rfl (AW (α:=UInt64) (xs:=([]:List UInt64)) (vs:=[]) (ds' :=[]) rfl G0 el121 rfl evs_nil (by kernel_rfl) rfl) (fun D1 W0 d0 x0=>?_)
 have y0:=AG (cs:=[]) (xs:=(([]:List UInt64):List UInt64)) d0 L (AO _ _)
 refine RD.each [1,5] (readyD_ok c0 (by kernel_rfl)) ⟨?_,?_,trivial⟩
 refine RO.val (m' :=31) (stepC_ok c0 (by kernel_rfl)) rfl .plain rfl (AK rfl ((d0.memA (.tl .hd)) 0 _ rfl))<|Bs (i:=5) (readyD_ok c0 (by kernel_rfl)) (RO.doesL (m' :=63) (stepC_ok c0 (by kernel_rfl)) rfl rfl .plain rfl (BJ (α:=UInt64) (ys:=([b0.fSize.1,b0.fSize.2.1,b0.fSize.2.2.1,b0.fSize.2.2.2.1,b0.fSize.2.2.2.2.1,b0.fSize.2.2.2.2.2.1,b0.fSize.2.2.2.2.2.2.1,b0.fSize.2.2.2.2.2.2.2]:List UInt64)) H0 d0 (fun _ _=>.hd) el121 rfl rfl y0 (Src.arr (ds:=[vU b0.fSize.1,vU b0.fSize.2.1,vU b0.fSize.2.2.1,vU b0.fSize.2.2.2.1,vU b0.fSize.2.2.2.2.1,vU b0.fSize.2.2.2.2.2.1,vU b0.fSize.2.2.2.2.2.2.1,vU b0.fSize.2.2.2.2.2.2.2]) (ys:=([b0.fSize.1,b0.fSize.2.1,b0.fSize.2.2.1,b0.fSize.2.2.2.1,b0.fSize.2.2.2.2.1,b0.fSize.2.2.2.2.2.1,b0.fSize.2.2.2.2.2.2.1,b0.fSize.2.2.2.2.2.2.2]:List UInt64)) (n:=8) (mem_part (d0.memA (.tl .hd)) 1 8) (Au (cs:=[vU b0.fSize.1]) (ds:=[vU b0.fSize.2.1,vU b0.fSize.2.2.1,vU b0.fSize.2.2.2.1,vU b0.fSize.2.2.2.2.1,vU b0.fSize.2.2.2.2.2.1,vU b0.fSize.2.2.2.2.2.2.1,vU b0.fSize.2.2.2.2.2.2.2]) rfl (Au (cs:=[vU b0.fSize.2.1]) (ds:=[vU b0.fSize.2.2.1,vU b0.fSize.2.2.2.1,vU b0.fSize.2.2.2.2.1,vU b0.fSize.2.2.2.2.2.1,vU b0.fSize.2.2.2.2.2.2.1,vU b0.fSize.2.2.2.2.2.2.2]) rfl (Au (cs:=[vU b0.fSize.2.2.1]) (ds:=[vU b0.fSize.2.2.2.1,vU b0.fSize.2.2.2.2.1,vU b0.fSize.2.2.2.2.2.1,vU b0.fSize.2.2.2.2.2.2.1,vU b0.fSize.2.2.2.2.2.2.2]) rfl (Au (cs:=[vU b0.fSize.2.2.2.1]) (ds:=[vU b0.fSize.2.2.2.2.1,vU b0.fSize.2.2.2.2.2.1,vU b0.fSize.2.2.2.2.2.2.1,vU b0.fSize.2.2.2.2.2.2.2]) rfl (Au (cs:=[vU b0.fSize.2.2.2.2.1]) (ds:=[vU b0.fSize.2.2.2.2.2.1,vU b0.fSize.2.2.2.2.2.2.1,vU b0.fSize.2.2.2.2.2.2.2]) rfl (Au (cs:=[vU b0.fSize.2.2.2.2.2.1]) (ds:=[vU b0.fSize.2.2.2.2.2.2.1,vU b0.fSize.2.2.2.2.2.2.2]) rfl (Au (cs:=[vU b0.fSize.2.2.2.2.2.2.1]) (ds:=[vU b0.fSize.2.2.2.2.2.2.2]) rfl (Au (cs:=[vU b0.fSize.2.2.2.2.2.2.2]) (ds:=[]) rfl (AO _ _))))))))) rfl)) (fun v0 R0 ⟨s0,k0,t0,u0⟩=>?_))
 obtain ⟨b1,M0⟩:=AH k0 (.one .hd (.one (.tl .hd) .done))
 have s1:=AN u0 M0
 have v1:=Tt x0 (Tt t0 M0)
 exact B0 (v0,s0) _ _ ⟨rfl,rfl,rfl,trivial⟩ ⟨b1,v1,s1⟩
 refine RO.doesL (m' :=61) (stepC_ok c0 (by kernel_rfl)) rfl rfl .plain rfl (BJ (α:=UInt64) (ys:=([b0.fSize.1,b0.fSize.2.1,b0.fSize.2.2.1,b0.fSize.2.2.2.1,b0.fSize.2.2.2.2.1,b0.fSize.2.2.2.2.2.1,b0.fSize.2.2.2.2.2.2.1,b0.fSize.2.2.2.2.2.2.2]:List UInt64)) H0 d0 (fun _ _=>.hd) el121 rfl rfl y0 (Src.arr (ds:=[vU b0.fSize.1,vU b0.fSize.2.1,vU b0.fSize.2.2.1,vU b0.fSize.2.2.2.1,vU b0.fSize.2.2.2.2.1,vU b0.fSize.2.2.2.2.2.1,vU b0.fSize.2.2.2.2.2.2.1,vU b0.fSize.2.2.2.2.2.2.2]) (ys:=([b0.fSize.1,b0.fSize.2.1,b0.fSize.2.2.1,b0.fSize.2.2.2.1,b0.fSize.2.2.2.2.1,b0.fSize.2.2.2.2.2.1,b0.fSize.2.2.2.2.2.2.1,b0.fSize.2.2.2.2.2.2.2]:List UInt64)) (n:=8) (mem_part (d0.memA (.tl .hd)) 1 8) (Au (cs:=[vU b0.fSize.1]) (ds:=[vU b0.fSize.2.1,vU b0.fSize.2.2.1,vU b0.fSize.2.2.2.1,vU b0.fSize.2.2.2.2.1,vU b0.fSize.2.2.2.2.2.1,vU b0.fSize.2.2.2.2.2.2.1,vU b0.fSize.2.2.2.2.2.2.2]) rfl (Au (cs:=[vU b0.fSize.2.1]) (ds:=[vU b0.fSize.2.2.1,vU b0.fSize.2.2.2.1,vU b0.fSize.2.2.2.2.1,vU b0.fSize.2.2.2.2.2.1,vU b0.fSize.2.2.2.2.2.2.1,vU b0.fSize.2.2.2.2.2.2.2]) rfl (Au (cs:=[vU b0.fSize.2.2.1]) (ds:=[vU b0.fSize.2.2.2.1,vU b0.fSize.2.2.2.2.1,vU b0.fSize.2.2.2.2.2.1,vU b0.fSize.2.2.2.2.2.2.1,vU b0.fSize.2.2.2.2.2.2.2]) rfl (Au (cs:=[vU b0.fSize.2.2.2.1]) (ds:=[vU b0.fSize.2.2.2.2.1,vU b0.fSize.2.2.2.2.2.1,vU b0.fSize.2.2.2.2.2.2.1,vU b0.fSize.2.2.2.2.2.2.2]) rfl (Au (cs:=[vU b0.fSize.2.2.2.2.1]) (ds:=[vU b0.fSize.2.2.2.2.2.1,vU b0.fSize.2.2.2.2.2.2.1,vU b0.fSize.2.2.2.2.2.2.2]) rfl (Au (cs:=[vU b0.fSize.2.2.2.2.2.1]) (ds:=[vU b0.fSize.2.2.2.2.2.2.1,vU b0.fSize.2.2.2.2.2.2.2]) rfl (Au (cs:=[vU b0.fSize.2.2.2.2.2.2.1]) (ds:=[vU b0.fSize.2.2.2.2.2.2.2]) rfl (Au (cs:=[vU b0.fSize.2.2.2.2.2.2.2]) (ds:=[]) rfl (AO _ _))))))))) rfl)) (fun v0 R0 ⟨s0,k0,t0,u0⟩=>?_)
 refine AD 1 63 192 c0 rfl z0 (AK rfl ((k0.memA (.tl .hd)) 0 _ rfl)) rfl ?_
 obtain ⟨c1,P0⟩:=AH k0 (.one .hd (.one (.tl .hd) .done))
 have t1:=AN u0 P0
 have x1:=Tt x0 (Tt t0 P0)
 exact B0 (v0,s0) _ _ ⟨rfl,rfl,rfl,trivial⟩ ⟨c1,x1,t1⟩
def tb130_1:List (Nat × Nat × Nat):=[(0,8,2),(1,16,8),(2,32,16),(0,64,2),(8,128,64),(20,256,128),(36,512,288),(127,0,516)]
theorem body165:bodyB Tryz.prog 165 = true:=by kernel_rfl
def share_Read_p (n:Nat) (a0:TShare):Option TRatio:=
  (wide_Longer_p n a0.fN).bind fun b0=>(wide_Longer_p n a0.fD).bind fun c0=>some (⟨b0,c0⟩:TRatio)
theorem share_Read_c (n:Nat) (L:List Nat) (w:World) (hL:∀ b ∈ L,b < w.heap.size) (a0:TShare)  {r:TRatio} (h:share_Read_p n a0 = some r) :
    Calls Tryz.prog 130 #[.agg ((cs_TShare a0)).toArray] w (Gives w fun w' u=>∃ v0_1 v0_3:Value,u = .agg #[.bool r.fLong.fBelow,v0_1,.bool r.fUnder.fBelow,v0_3]∧Rep.R w' L [v0_1] r.fLong.fWords∧Rep.R w' L [v0_3] r.fUnder.fWords):=by
 unfold share_Read_p at h
 have hS0:=Ax w
 refine AA Tryz.func130 rfl rfl rfl (fun _ cs0 hb0=>?_)
 refine Ac<|Aj .plain rfl (Aw hS0 rfl rfl) (fun Z0 M0 z0 U0=>?_)
 refine Aj .plain rfl (Av [.bool false,vN,.bool false,vN] z0) (fun b1 P0 j0 V0=>?_)
 refine Aa<|Ak<|AF 7 tb130_1 (by kernel_rfl) (by kernel_rfl) (by kernel_rfl) (fun b0 c0=>?_)
 refine Ah 0 1 b0 rfl c0 (fun _=>Bh 0 rfl) rfl<|AD 1 3 228 b0 rfl c0 (Bl (cs:=(cs_A34 a0.fN)) (by kernel_rfl) rfl (mem_part (j0.memA (.tl .hd)) 0 8)) rfl<|Ah 3 11 b0 rfl c0 (fun _=>Bh 8 rfl) rfl<|AD 4 27 224 b0 rfl c0 (Bl (cs:=(cs_A34 a0.fD)) (by kernel_rfl) rfl (mem_part (j0.memA (.tl .hd)) 8 8)) rfl ?_
 obtain ⟨p0,H0,h⟩:=bi h
 refine Bi 2 31 b0 rfl .plain body165 rfl (e1 rfl) (fun w9 hw9=>wide_Longer_c n _ w9 (j0.hL hL hw9) a0.fN H0) rfl (fun c1 X0 B0 ⟨d0,hu_,y0⟩=>?_)
 subst hu_
 obtain ⟨t0,W0⟩:=j0.agr B0
 obtain ⟨q0,I0,h⟩:=bi h
 refine Bi 5 63 b0 rfl .plain body165 rfl (e1 rfl) (fun w9 hw9=>wide_Longer_c n _ w9 (t0.hL hL hw9) a0.fD I0) rfl (fun d1 Y0 C0 ⟨g0,hu_,s0⟩=>?_)
 subst hu_
 obtain ⟨A0,u0⟩:=t0.agr C0
 have x0:=Ap y0 u0
 obtain ⟨J0,Q0,F0,_⟩:=Rep.sl x0
 obtain ⟨K0,R0,G0,_⟩:=Rep.sl s0
 refine Ah 6 127 b0 rfl c0 (fun _=>AS (vs:=[.agg #[.bool p0.fBelow,d0],.agg #[.bool q0.fBelow,g0]]) (u:=.agg #[.bool p0.fBelow,d0,.bool q0.fBelow,g0]) (e2 rfl rfl) (fun w9=>by rw [F0,G0]; try kernel_rfl)) rfl<|Bt 7 255 b0 rfl rfl .plain (Ay (news:=[.bool p0.fBelow,d0,.bool q0.fBelow,g0]) A0 .hd rfl rfl rfl rfl rfl rfl (o4 rfl (AI x0) rfl (AI s0))) (fun g1 k0 v0=>?_)
 refine AE (doneD_ok b0 (by kernel_rfl))<|Al rfl<|Ao hb0 Tryz.func130 rfl (.cons (.many (cs:=[.bool p0.fBelow,d0,.bool q0.fBelow,g0]) (by kernel_rfl) rfl (k0.memA .hd)) .nil) rfl ?_
 cases h
 have D0:=Ap y0 (Tt u0 v0)
 have E0:=Ap s0 v0
 exact ⟨k0.ag,fun w9 hw9=>⟨d0,g0,rfl,k0.kd D0 hw9,k0.kd E0 hw9⟩⟩
def wide_Long_Side_p (_n:Nat) (a0:TLong):Option Int:=
  (if a0.fBelow = true then some (-1:Int) else (if a0.fWords.length = 0 then some (0:Int) else some (1:Int)))
theorem wide_Long_Side_c (n:Nat) (L:List Nat) (w:World) (_hL:∀ b ∈ L,b < w.heap.size) (a0:TLong) {v0_1:Value} (h0_1:Rep.R w L [v0_1] a0.fWords)  {r:Int} (h:wide_Long_Side_p n a0 = some r) :
    Calls Tryz.prog 144 #[.agg #[.bool a0.fBelow,v0_1]] w (Gives w fun _ u=>u = vI r):=by
 unfold wide_Long_Side_p at h
 have hS0:=Ax w
 refine AA Tryz.func144 rfl rfl rfl (fun _ cs0 hb0=>?_)
 refine Ac<|Aj .plain rfl (Aw hS0 rfl rfl) (fun q0 j0 b0 k0=>?_)
 refine Ag rfl<|Aa<|Ak<|Az<|Ac<|Bg 0 rfl<|Bd rfl ((b0.memA .hd) 0 _ rfl)<|Ag rfl<|Aa<|MX.ifb rfl h (fun d0 h=>?_) (fun d0 h=>?_)
 refine Ac<|Ag rfl<|Aa<|Al rfl<|Bc hb0 Tryz.func144 rfl rfl ?_
 cases h
 exact b0.gv
 refine Ac<|Bg 1 rfl<|Bd rfl ((b0.memA .hd) 1 _ rfl) ?_
 have c0:=AM h0_1 b0
 have p0:a0.fWords.length ≤ 281474976710656:=AT c0
 refine Ab (Bb (xs:=a0.fWords) Tryz.underlying121 rfl c0)<|Ab (FV.eqlN (i:=a0.fWords.length) (j:=0) rfl rfl)<|Ag rfl<|Aa<|AQ rfl h (fun g0 h=>?_) (fun g0 h=>?_)
 refine Ac<|Ag rfl<|Aa<|Al rfl<|Bc hb0 Tryz.func144 rfl rfl ?_
 cases h
 exact b0.gv
 refine Aq<|AC<|Ac<|Ag rfl<|Aa<|Al rfl<|Bc hb0 Tryz.func144 rfl rfl ?_
 cases h
 exact b0.gv
def tb172_6:List (Nat × Nat × Nat):=[(0,16777216,1),(0,33554432,32),(3,67108864,50331648),(4,134217728,67108864),(0,268435456,2),(0,536870912,32),(48,1073741824,805306368),(64,2147483648,1073741824),(136,4294967296,2281701376),(256,8388608,4294967296)]
def tb172_8:List (Nat × Nat × Nat):=[(0,17179869184,1),(0,34359738368,32),(3,68719476736,51539607552),(4,137438953472,68719476736),(0,274877906944,2),(0,549755813888,32),(48,1099511627776,824633720832),(64,2199023255552,1099511627776),(136,4398046511104,2336462209024),(256,8589934592,4398046511104)]
def wide_compared_l1 (_n:Nat) (a0:List UInt64) (a1:List UInt64) (g0:Int → Option (Int ⊕ Unit)):Int → Option (Int ⊕ Unit)
  | b0=>(if 0 ≤ b0 then (idx a0 b0).bind fun c0=>(idx a1 b0).bind fun d0=>(if c0 < d0 then some (.inl (-1:Int)) else (if d0 < c0 then some (.inl (1:Int)) else (chk (b0 - 1)).bind fun j0=>g0 j0)) else some (.inr ()))
def wide_compared_p (n:Nat) (a0:List UInt64) (a1:List UInt64):Option Int:=
  (if a0.length = a1.length then thn (loopF (wide_compared_l1 n a0 a1) n (((a0.length:Nat):Int) - 1)) (fun _=>some (0:Int)) else some (((a0.length:Nat):Int) - ((a1.length:Nat):Int)))
theorem wide_compared_c (n:Nat) (L:List Nat) (w:World) (_hL:∀ b ∈ L,b < w.heap.size) (a0:List UInt64) {v0_0:Value} (h0_0:Rep.R w L [v0_0] a0) (a1:List UInt64) {v1_0:Value} (h1_0:Rep.R w L [v1_0] a1)  {r:Int} (h:wide_compared_p n a0 a1 = some r) :
    Calls Tryz.prog 172 #[v0_0,v1_0] w (Gives w fun _ u=>u = vI r):=by
 unfold wide_compared_p at h
 have hS0:=Ax w
 refine AA Tryz.func172 rfl rfl rfl (fun _ cs0 hb0=>?_)
 refine Ac<|Ag rfl<|Aa<|Ak<|Ac<|Ae rfl ?_
 have hl1:a0.length ≤ 281474976710656:=AT h0_0
 refine Ab (Bb (xs:=a0) Tryz.underlying121 rfl h0_0)<|Ae rfl ?_
 have hl2:a1.length ≤ 281474976710656:=AT h1_0
 refine Ab (Bb (xs:=a1) Tryz.underlying121 rfl h1_0)<|Ab (FV.neqN (i:=a0.length) (j:=a1.length) rfl rfl)<|Aa<|MX.ifn rfl h (fun c3 h=>?_) (fun c3 h=>?_)
 refine Aq<|Ak<|Ac<|Ae rfl<|Ab (Bb (xs:=a0) Tryz.underlying121 rfl h0_0)<|Ab (FV.subI (i:=((a0.length:Nat):Int)) (j:=1) rfl rfl (by omega))<|Ag rfl<|Aa<|Az ?_
 obtain ⟨q1,R0,p0⟩:=thn_in h
 refine Bj (α:=Int) (fun d0=>[(0,v0_0),(1,v1_0),(5,vI d0)]) (fun d0 q0=>St w q0 []∧Tr w [] q0 []) (fun d0=>d0) (((a0.length:Nat):Int) - 1) R0 ⟨rfl,rfl,rfl,trivial⟩ ⟨hS0,AP _ _⟩ ?_
 rintro j1 d0 q0 I0 ⟨k0,J0⟩ h
 unfold wide_compared_l1 at h
 try dsimp only at h
 refine Ak<|Ac<|Ae rfl<|Ab (FV.geq (i:=d0) (j:=0) rfl rfl)<|Aa<|AQ rfl h (fun D0 h=>?_) (fun D0 h=>?_)
 refine Aq<|Ak<|Az<|Az<|Ak<|AF 10 tb172_6 (by kernel_rfl) (by kernel_rfl) (by kernel_rfl) (fun b0 g0=>?_)
 refine Ah 0 1 b0 rfl g0 (fun _=>Ai rfl) rfl<|Ah 1 3 b0 rfl g0 (fun _=>Ai rfl) rfl ?_
 obtain ⟨s0,X0,h⟩:=bi h
 obtain ⟨x0,Y0⟩:=idx_in X0
 have P0:=AM h0_0 k0
 obtain ⟨d1,k1,u0,z0,G0,U0,B0⟩:=Bm P0 Y0
 have K0:G0 = [vU s0]:=U0; subst K0
 refine Ah 2 7 b0 rfl g0 (fun _=>Bo 1 (d0.toNat) rfl u0 rfl x0 z0) rfl<|AD 3 15 768 b0 rfl g0 (AK rfl (B0 0 _ rfl)) rfl<|Ah 4 31 b0 rfl g0 (fun _=>Ai rfl) rfl<|Ah 5 63 b0 rfl g0 (fun _=>Ai rfl) rfl ?_
 obtain ⟨t0,Z0,h⟩:=bi h
 obtain ⟨y0,b1⟩:=idx_in Z0
 have Q0:=AM h1_0 k0
 obtain ⟨g1,p1,v0,A0,H0,V0,C0⟩:=Bm Q0 b1
 have M0:H0 = [vU t0]:=V0; subst M0
 refine Ah 6 127 b0 rfl g0 (fun _=>Bo 1 (d0.toNat) rfl v0 rfl y0 A0) rfl<|AD 7 255 768 b0 rfl g0 (AK rfl (C0 0 _ rfl)) rfl<|Ah 8 511 b0 rfl g0 (fun _=>FV.lssU (a:=s0) (b:=t0) rfl rfl) rfl<|Ah 9 1023 b0 rfl g0 (fun _=>AJ rfl) rfl<|AE (doneD_ok b0 (by kernel_rfl))<|AQ rfl h (fun E0 h=>?_) (fun E0 h=>?_)
 refine Ac<|Ag rfl<|Aa ?_
 have h:=thn_inl h p0
 refine Al rfl<|Bc hb0 Tryz.func172 rfl rfl ?_
 cases h
 exact k0.gv
 refine Ak<|AF 10 tb172_8 (by kernel_rfl) (by kernel_rfl) (by kernel_rfl) (fun c0 j0=>?_)
 refine Ah 0 1 c0 rfl j0 (fun _=>Ai rfl) rfl<|Ah 1 3 c0 rfl j0 (fun _=>Ai rfl) rfl<|Ah 2 7 c0 rfl j0 (fun _=>Bo 1 (d0.toNat) rfl u0 rfl x0 z0) rfl<|AD 3 15 768 c0 rfl j0 (AK rfl (B0 0 _ rfl)) rfl<|Ah 4 31 c0 rfl j0 (fun _=>Ai rfl) rfl<|Ah 5 63 c0 rfl j0 (fun _=>Ai rfl) rfl<|Ah 6 127 c0 rfl j0 (fun _=>Bo 1 (d0.toNat) rfl v0 rfl y0 A0) rfl<|AD 7 255 768 c0 rfl j0 (AK rfl (C0 0 _ rfl)) rfl<|Ah 8 511 c0 rfl j0 (fun _=>FV.gtrU (a:=s0) (b:=t0) rfl rfl) rfl<|Ah 9 1023 c0 rfl j0 (fun _=>AJ rfl) rfl<|AE (doneD_ok c0 (by kernel_rfl))<|AQ rfl h (fun F0 h=>?_) (fun F0 h=>?_)
 refine Ac<|Ag rfl<|Aa ?_
 have h:=thn_inl h p0
 refine Al rfl<|Bc hb0 Tryz.func172 rfl rfl ?_
 cases h
 exact k0.gv
 refine Aq<|AC<|AC<|Ar<|Ae rfl ?_
 obtain ⟨c1,W0,h⟩:=bi h
 refine Ab (FV.subc (i:=d0) (j:=1) rfl rfl W0)<|Ag rfl<|Aa ?_
 exact I0 c1 _ _ ⟨rfl,rfl,rfl,trivial⟩ ⟨k0,J0⟩ h
 refine Be rfl ?_
 have h:=thn_inr h p0
 try dsimp only at h
 refine Ac<|Ag rfl<|Aa<|Al rfl<|Bc hb0 Tryz.func172 rfl rfl ?_
 cases h
 exact k0.gv
 refine Ac<|Ae rfl<|Ab (Bb (xs:=a0) Tryz.underlying121 rfl h0_0)<|Ae rfl<|Ab (Bb (xs:=a1) Tryz.underlying121 rfl h1_0)<|Ab (FV.subI (i:=((a0.length:Nat):Int)) (j:=((a1.length:Nat):Int)) rfl rfl (by omega))<|Ag rfl<|Aa<|Al rfl<|Bc hb0 Tryz.func172 rfl rfl ?_
 cases h
 exact hS0.gv
def wide_taken_l1 (_n:Nat) (a0:List UInt64) (a1:List UInt64) (j0:UInt64 × Nat × (List UInt64) → Option (List UInt64)):UInt64 × Nat × (List UInt64) → Option (List UInt64)
  | (k0,b0,c0)=>(if b0 < a0.length then (a0[b0]?).bind fun q0=>jn (fun p0=>(sub64 q0 p0 k0).bind fun g0=>(c0[b0]?).bind fun u0=>(put c0 ((b0:Nat):Int) g0.1).bind fun t0=>j0 (g0.2,b0 + 1,t0)) (fun d0=>(if b0 < a1.length then (a1[b0]?).bind fun s0=>d0 s0 else d0 (0:UInt64))) else some c0)
def wide_taken_p (n:Nat) (a0:List UInt64) (a1:List UInt64):Option (List UInt64):=
  (mk ((a0.length:Nat):Int) (0:UInt64)).bind fun b0=>Option.bind (loopF (wide_taken_l1 n a0 a1) n ((0:UInt64),0,b0)) (fun c0=>some c0)
theorem wide_taken_c (n:Nat) (L:List Nat) (w:World) (hL:∀ b ∈ L,b < w.heap.size) (a0:List UInt64) {v0_0:Value} (h0_0:Rep.R w L [v0_0] a0) (a1:List UInt64) {v1_0:Value} (h1_0:Rep.R w L [v1_0] a1)  {r:List UInt64} (h:wide_taken_p n a0 a1 = some r) :
    Calls Tryz.prog 173 #[v0_0,v1_0] w (Gives w fun w' u=>∃ v0_0:Value,u = v0_0∧Rep.R w' L [v0_0] r):=by
 unfold wide_taken_p at h
 have hS0:=Ax w
 refine AA Tryz.func173 rfl rfl rfl (fun _ cs0 hb0=>?_)
 refine Ac<|Ag rfl<|Aa<|Ac<|Ae rfl ?_
 have hl1:a0.length ≤ 281474976710656:=AT h0_0
 refine Ab (Bb (xs:=a0) Tryz.underlying121 rfl h0_0) ?_
 obtain ⟨A0,H0,h⟩:=bi h
 refine Aj .plain rfl (Does.mk (α:=UInt64) H0 hS0 el121 rfl) (fun M1 d0 s0 d2=>?_)
 have b1:=AG (cs:=(List.replicate ((a0.length:Nat):Int).toNat [vW 0]).flatten) (xs:=A0) s0 L (Cells.mk H0 rfl)
 refine Ag rfl<|Aa<|Ac<|Ag rfl<|Aa<|Ak<|Ac<|Ae rfl ?_
 have v1:=AM h0_0 s0
 refine Ab (Bb (xs:=a0) Tryz.underlying121 rfl v1)<|Ae rfl<|Aa<|Az ?_
 obtain ⟨p2,A1,q1⟩:=bind_in2 h
 refine Bj (α:=UInt64 × Nat × (List UInt64) × (List Value)) (fun ⟨k0,b0,c0,g0⟩=>[(1,v1_0),(5,(.slice (some ⟨d0,0,none⟩) ((a0.length:Nat):Int).toNat ((a0.length:Nat):Int).toNat)),(6,vU k0),(13,v0_0),(14,vI ((a0.length:Nat):Int)),(15,vI ((b0:Nat):Int))]) (fun ⟨k0,b0,c0,g0⟩ q0=>St w q0 [.row w.heap.size 33 (Rep.size UInt64) (.slice (some ⟨d0,0,none⟩) ((a0.length:Nat):Int).toNat ((a0.length:Nat):Int).toNat) c0.length g0]∧Tr M1 [.row w.heap.size 33 (Rep.size UInt64) (.slice (some ⟨d0,0,none⟩) ((a0.length:Nat):Int).toNat ((a0.length:Nat):Int).toNat) A0.length ((List.replicate ((a0.length:Nat):Int).toNat [vW 0]).flatten)] q0 [.row w.heap.size 33 (Rep.size UInt64) (.slice (some ⟨d0,0,none⟩) ((a0.length:Nat):Int).toNat ((a0.length:Nat):Int).toNat) c0.length g0]∧Cells q0 (bl [.row w.heap.size 33 (Rep.size UInt64) (.slice (some ⟨d0,0,none⟩) ((a0.length:Nat):Int).toNat ((a0.length:Nat):Int).toNat) c0.length g0] ++ L) g0 c0) (fun ⟨k0,b0,c0,g0⟩=>(k0,b0,c0)) ((0:UInt64),0,A0,(List.replicate ((a0.length:Nat):Int).toNat [vW 0]).flatten) A1 ⟨rfl,rfl,rfl,rfl,rfl,rfl,trivial⟩ ⟨s0,AP _ _,b1⟩ ?_
 rintro W1 ⟨k0,b0,c0,g0⟩ q0 W0 ⟨j0,Y0,D0⟩ h
 unfold wide_taken_l1 at h
 try dsimp only at h
 refine Ac<|Ab (Bn (i:=b0) (j:=a0.length) rfl rfl)<|Aa<|Ak<|AQ rfl h (fun M0 h=>?_) (fun M0 h=>?_)
 refine Aq<|Ak<|Az<|Ac<|Ae rfl ?_
 obtain ⟨z0,G1,h⟩:=bi h
 have y1:=AM h0_0 j0
 obtain ⟨U1,Y1,d1,s1,Q0,B1,x1⟩:=Bm y1 G1
 have g1:Q0 = [vU z0]:=B1; subst g1
 refine Ab (Bo 1 b0 rfl d1 rfl rfl s1)<|Bd rfl (x1 0 _ rfl)<|Ag rfl<|Ag rfl<|Aa<|Ac<|Ag rfl<|Aa<|Ak<|Ac<|Ae rfl<|Ae rfl ?_
 have x0:=AM h1_0 j0
 have j2:a1.length ≤ 281474976710656:=AT x0
 refine Ab (Bb (xs:=a1) Tryz.underlying121 rfl x0)<|Ab (Bn (i:=b0) (j:=a1.length) rfl rfl)<|Aa<|MX.join (α:=UInt64) (fun p0=>[(1,v1_0),(5,(.slice (some ⟨d0,0,none⟩) ((a0.length:Nat):Int).toNat ((a0.length:Nat):Int).toNat)),(6,vU k0),(13,v0_0),(14,vI ((a0.length:Nat):Int)),(15,vI ((b0:Nat):Int)),(7,vI ((b0:Nat):Int)),(8,vU z0),(9,vU p0)]) (fun p0 y0=>St w y0 [.row w.heap.size 33 (Rep.size UInt64) (.slice (some ⟨d0,0,none⟩) ((a0.length:Nat):Int).toNat ((a0.length:Nat):Int).toNat) c0.length g0]∧Tr q0 [.row w.heap.size 33 (Rep.size UInt64) (.slice (some ⟨d0,0,none⟩) ((a0.length:Nat):Int).toNat ((a0.length:Nat):Int).toNat) c0.length g0] y0 [.row w.heap.size 33 (Rep.size UInt64) (.slice (some ⟨d0,0,none⟩) ((a0.length:Nat):Int).toNat ((a0.length:Nat):Int).toNat) c0.length g0]) (fun p0=>p0) h ?_ ?_
 rintro p0 y0 ⟨t0,C0⟩ h
 try dsimp only at h
 refine Ar<|Ae rfl<|Ae rfl<|Ae rfl<|Ae rfl<|Ae rfl ?_
 obtain ⟨R1,K1,h⟩:=bi h
 refine Ab (FV.sub64 (a:=z0) (b:=p0) (c:=k0) Tryz.func197 rfl (by kernel_rfl) (by kernel_rfl) (by kernel_rfl) rfl rfl rfl K1)<|Ae rfl<|Ab (Af rfl rfl)<|Ab (Af rfl rfl) ?_
 obtain ⟨P1,H1,h⟩:=bi h
 have G0:=AN D0 C0
 obtain ⟨J0,Z1,v0,F0,R0,C1,k2⟩:=St.nth (α:=UInt64) t0 .hd G0 H1
 obtain ⟨K0,b2,E0⟩:=St.nthOwn (α:=UInt64) t0 .hd F0
 obtain rfl:J0 = ⟨K0,0,none⟩:=by rw [E0] at v0; cases v0; rfl
 have j1:R0 = [vU P1]:=C1; subst j1
 refine Ab (Bo 1 b0 rfl v0 rfl rfl F0) ?_
 obtain ⟨Q1,J1,h⟩:=bi h
 refine RG.acts' .plain (Acts.set (α:=UInt64) (i:=b0) J1 t0 E0 (fun _=>.hd) G0 rfl rfl rfl rfl rfl (by kernel_rfl)) (fun q2 ⟨U0,X0,Z0,c1⟩=>?_)
 refine Ag rfl<|Aa<|AC<|Ar<|Ab (Br (i:=b0) (j:=1) rfl rfl (by omega))<|Ae rfl<|Aa ?_
 exact W0 (R1.2,b0 + 1,Q1,U0) _ _ ⟨rfl,rfl,rfl,rfl,rfl,rfl,trivial⟩ ⟨X0,(Tt Y0 (Tt C0 Z0)),c1⟩ h
 intro X1 B0 h
 try dsimp only at h
 refine AQ rfl h (fun P0 h=>?_) (fun P0 h=>?_)
 refine Ar<|Ae rfl<|Ae rfl ?_
 obtain ⟨I0,I1,h⟩:=bi h
 obtain ⟨V1,c2,k1,u1,V0,D1,z1⟩:=Bm x0 I1
 have p1:V0 = [vU I0]:=D1; subst p1
 refine Ab (Bo 1 b0 rfl k1 rfl rfl u1)<|Bd rfl (z1 0 _ rfl)<|Ag rfl<|Aa ?_
 exact B0 I0 _ _ ⟨rfl,rfl,rfl,rfl,rfl,rfl,rfl,rfl,rfl,trivial⟩ ⟨j0,AP _ _⟩ h
 refine Aq ?_
 exact B0 (0:UInt64) _ _ ⟨rfl,rfl,rfl,rfl,rfl,rfl,rfl,rfl,rfl,trivial⟩ ⟨j0,AP _ _⟩ h
 refine Be rfl ?_
 have h:=q1 _ h
 try dsimp only at h
 refine Ac<|Ae rfl<|Ag rfl<|Aa<|Al rfl ?_
 have E1:=Bq (α:=UInt64) j0 .hd D0 hL
 have u0:=BD j0 .hd
 have g2:=BE j0 .hd
 have F1:=BF (α:=UInt64) (v:=(.slice (some ⟨d0,0,none⟩) ((a0.length:Nat):Int).toNat ((a0.length:Nat):Int).toNat)) (xs:=c0) u0 L E1
 refine Bc hb0 Tryz.func173 rfl rfl ?_
 cases h
 exact ⟨u0.ag,fun w9 hw9=>⟨(.slice (some ⟨d0,0,none⟩) ((a0.length:Nat):Int).toNat ((a0.length:Nat):Int).toNat),rfl,u0.kd F1 hw9⟩⟩
def stab0:List UInt8:=[0,1,2,2,3,3,3,3,4,4,4,4,4,4,4,4,5,5,5,5,5,5,5,5,5,5,5,5,5,5,5,5,6,6,6,6,6,6,6,6,6,6,6,6,6,6,6,6,6,6,6,6,6,6,6,6,6,6,6,6,6,6,6,6,7,7,7,7,7,7,7,7,7,7,7,7,7,7,7,7,7,7,7,7,7,7,7,7,7,7,7,7,7,7,7,7,7,7,7,7,7,7,7,7,7,7,7,7,7,7,7,7,7,7,7,7,7,7,7,7,7,7,7,7,7,7,7,7,8,8,8,8,8,8,8,8,8,8,8,8,8,8,8,8,8,8,8,8,8,8,8,8,8,8,8,8,8,8,8,8,8,8,8,8,8,8,8,8,8,8,8,8,8,8,8,8,8,8,8,8,8,8,8,8,8,8,8,8,8,8,8,8,8,8,8,8,8,8,8,8,8,8,8,8,8,8,8,8,8,8,8,8,8,8,8,8,8,8,8,8,8,8,8,8,8,8,8,8,8,8,8,8,8,8,8,8,8,8,8,8,8,8,8,8,8,8,8,8,8,8,8,8,8,8,8,8]
def math_bits_Len64_p (_n:Nat) (a0:UInt64):Option Int:=
  jn (fun (u2,i3)=>jn (fun (b0,g0)=>jn (fun (q0,s0)=>(stab0[(u8of q0).toNat]?).bind fun t0=>(chk (s0 + ((t0.toNat:Nat):Int))).bind fun j0=>some j0) (fun d0=>(if (256:UInt64) ≤ b0 then (chk (g0 + 8)).bind fun k0=>d0 (shrU b0 8,k0) else d0 (b0,g0)))) (fun c0=>(if (65536:UInt64) ≤ u2 then (chk (((i3:Nat):Int) + 16)).bind fun p0=>c0 (shrU u2 16,p0) else c0 (u2,((i3:Nat):Int))))) (fun J7=>(if (4294967296:UInt64) ≤ a0 then J7 (shrU a0 32,32) else J7 (a0,0)))
theorem math_bits_Len64_c (n:Nat) (L:List Nat) (w:World) (_hL:∀ b ∈ L,b < w.heap.size) (a0:UInt64)  {r:Int} (h:math_bits_Len64_p n a0 = some r) :
    Calls Tryz.prog 226 #[vU a0] w (Gives w fun _ u=>u = vI r):=by
 unfold math_bits_Len64_p at h
 have hS0:=Ax w
 refine AA Tryz.func226 rfl rfl rfl (fun _ cs0 hb0=>?_)
 refine Ac<|Ag rfl<|Aa<|Ak<|Ac<|Ae rfl<|Ab (FV.geqU (a:=a0) (b:=(4294967296:UInt64)) rfl rfl)<|Aa<|MX.join (α:=UInt64 × Nat) (fun ⟨u2,i3⟩=>[(0,vU u2),(2,vI ((i3:Nat):Int))]) (fun ⟨u2,i3⟩ wx3=>St w wx3 []∧Tr w [] wx3 []) (fun ⟨u2,i3⟩=>(u2,i3)) h ?_ ?_
 rintro ⟨u2,i3⟩ wx3 ⟨hS4,hT5⟩ h
 try dsimp only at h
 refine Ak<|Ac<|Ae rfl<|Ab (FV.geqU (a:=u2) (b:=(65536:UInt64)) rfl rfl)<|Aa<|MX.join (α:=UInt64 × Int) (fun ⟨b0,d0⟩=>[(0,vU b0),(2,vI d0)]) (fun ⟨b0,d0⟩ j0=>St w j0 []∧Tr wx3 [] j0 []) (fun ⟨b0,d0⟩=>(b0,d0)) h ?_ ?_
 rintro ⟨b0,d0⟩ j0 ⟨t0,H0⟩ h
 try dsimp only at h
 refine Ak<|Ac<|Ae rfl<|Ab (FV.geqU (a:=b0) (b:=(256:UInt64)) rfl rfl)<|Aa<|MX.join (α:=UInt64 × Int) (fun ⟨c0,g0⟩=>[(0,vU c0),(2,vI g0)]) (fun ⟨c0,g0⟩ k0=>St w k0 []∧Tr j0 [] k0 []) (fun ⟨c0,g0⟩=>(c0,g0)) h ?_ ?_
 rintro ⟨c0,g0⟩ k0 ⟨y0,I0⟩ h
 try dsimp only at h
 refine Ac<|Ae rfl<|Ae rfl<|Ab (FV.conv8 (a:=c0) Tryz.underlying33 Tryz.underlying5 rfl) ?_
 obtain ⟨p0,C0,h⟩:=bi h
 refine Ab (FV.strIdx (k:=(u8of c0).toNat) (tab:=stab0) Tryz.underlying9 rfl rfl rfl rfl C0) ?_
 have J0:=p0.toNat_lt
 refine Ab (FV.convN (i:=p0.toNat) Tryz.underlying5 Tryz.underlying3 rfl (by omega)) ?_
 obtain ⟨K0,z0,h⟩:=bi h
 refine Ab (BC (i:=g0) (j:=((p0.toNat:Nat):Int)) rfl rfl z0)<|Ag rfl<|Aa<|Al rfl<|Bc hb0 Tryz.func226 rfl rfl ?_
 cases h
 exact y0.gv
 intro G0 s0 h
 try dsimp only at h
 refine AQ rfl h (fun u0 h=>?_) (fun u0 h=>?_)
 refine Ac<|Ae rfl<|Ab (FV.shrU (a:=b0) (j:=8) rfl rfl)<|Ag rfl<|Aa<|Ar<|Ae rfl ?_
 obtain ⟨D0,A0,h⟩:=bi h
 refine Ab (BC (i:=d0) (j:=8) rfl rfl A0)<|Ag rfl<|Aa ?_
 exact s0 (shrU b0 8,D0) _ _ ⟨rfl,rfl,trivial⟩ ⟨t0,AP _ _⟩ h
 refine Aq ?_
 exact s0 (b0,d0) _ _ ⟨rfl,rfl,trivial⟩ ⟨t0,AP _ _⟩ h
 intro F0 q0 h
 try dsimp only at h
 refine AQ rfl h (fun v0 h=>?_) (fun v0 h=>?_)
 refine Ac<|Ae rfl<|Ab (FV.shrU (a:=u2) (j:=16) rfl rfl)<|Ag rfl<|Aa<|Ar<|Ae rfl ?_
 obtain ⟨E0,B0,h⟩:=bi h
 refine Ab (BC (i:=((i3:Nat):Int)) (j:=16) rfl rfl B0)<|Ag rfl<|Aa ?_
 exact q0 (shrU u2 16,E0) _ _ ⟨rfl,rfl,trivial⟩ ⟨hS4,AP _ _⟩ h
 refine Aq ?_
 exact q0 (u2,((i3:Nat):Int)) _ _ ⟨rfl,rfl,trivial⟩ ⟨hS4,AP _ _⟩ h
 intro J7 hJ8 h
 try dsimp only at h
 refine AQ rfl h (fun x0 h=>?_) (fun x0 h=>?_)
 refine Ac<|Ae rfl<|Ab (FV.shrU (a:=a0) (j:=32) rfl rfl)<|Ag rfl<|Aa<|Ar<|Ag rfl<|Aa ?_
 exact hJ8 (shrU a0 32,32) _ _ ⟨rfl,rfl,trivial⟩ ⟨hS0,AP _ _⟩ h
 refine Aq ?_
 exact hJ8 (a0,0) _ _ ⟨rfl,rfl,trivial⟩ ⟨hS0,AP _ _⟩ h
theorem body226:bodyB Tryz.prog 226 = true:=by kernel_rfl
def math_bits_LeadingZeros64_p (n:Nat) (a0:UInt64):Option Int:=
  (math_bits_Len64_p n a0).bind fun y1=>(chk (64 - y1)).bind fun s2=>some s2
theorem math_bits_LeadingZeros64_c (n:Nat) (L:List Nat) (w:World) (hL:∀ b ∈ L,b < w.heap.size) (a0:UInt64)  {r:Int} (h:math_bits_LeadingZeros64_p n a0 = some r) :
    Calls Tryz.prog 222 #[vU a0] w (Gives w fun _ u=>u = vI r):=by
 unfold math_bits_LeadingZeros64_p at h
 have hS0:=Ax w
 refine AA Tryz.func222 rfl rfl rfl (fun _ cs0 hb0=>?_)
 refine Ac<|Ag rfl<|Aa<|Ac<|Ae rfl ?_
 obtain ⟨y1,hy1,h⟩:=bi h
 refine Bf (vI y1) body226 rfl (e1 rfl) (fun w9 hw9=>math_bits_Len64_c n _ w9 (hS0.hL0 hL hw9) a0 hy1) rfl ?_
 obtain ⟨s2,hs2,h⟩:=bi h
 refine Ab (FV.subc (i:=64) (j:=y1) rfl rfl hs2)<|Ag rfl<|Aa<|Al rfl<|Bc hb0 Tryz.func222 rfl rfl ?_
 cases h
 exact hS0.gv
def tb214_6:List (Nat × Nat × Nat):=[(0,268435456,2),(0,536870912,4),(3,1073741824,805306368),(0,2147483648,2),(0,4294967296,4),(24,8589934592,6442450944),(7,64,1073741824),(127,128,8589934592)]
theorem body222:bodyB Tryz.prog 222 = true:=by kernel_rfl
def math_bits_Div64_l1 (_n:Nat) (a2:UInt64) (y8:Int) (a1:UInt64) (d0:UInt64 × UInt64 → Option UInt64):UInt64 × UInt64 → Option UInt64
  | (b0,c0)=>(if (4294967296:UInt64) ≤ b0 then (if (4294967296:UInt64) ≤ (c0 + (shrU (shlU a2 (u64of y8).toNat) 32)) then some (b0 - (1:UInt64)) else d0 (b0 - (1:UInt64),c0 + (shrU (shlU a2 (u64of y8).toNat) 32))) else (if (((4294967296:UInt64) * c0) + ((shlU a1 (u64of y8).toNat) &&& (4294967295:UInt64))) < (b0 * ((shlU a2 (u64of y8).toNat) &&& (4294967295:UInt64))) then (if (4294967296:UInt64) ≤ (c0 + (shrU (shlU a2 (u64of y8).toNat) 32)) then some (b0 - (1:UInt64)) else d0 (b0 - (1:UInt64),c0 + (shrU (shlU a2 (u64of y8).toNat) 32))) else some b0))
def math_bits_Div64_l2 (_n:Nat) (a2:UInt64) (y8:Int) (a1:UInt64) (d0:UInt64 × UInt64 → Option UInt64):UInt64 × UInt64 → Option UInt64
  | (b0,c0)=>(if (4294967296:UInt64) ≤ b0 then (if (4294967296:UInt64) ≤ (c0 + (shrU (shlU a2 (u64of y8).toNat) 32)) then some (b0 - (1:UInt64)) else d0 (b0 - (1:UInt64),c0 + (shrU (shlU a2 (u64of y8).toNat) 32))) else (if (((4294967296:UInt64) * c0) + (shrU (shlU a1 (u64of y8).toNat) 32)) < (b0 * ((shlU a2 (u64of y8).toNat) &&& (4294967295:UInt64))) then (if (4294967296:UInt64) ≤ (c0 + (shrU (shlU a2 (u64of y8).toNat) 32)) then some (b0 - (1:UInt64)) else d0 (b0 - (1:UInt64),c0 + (shrU (shlU a2 (u64of y8).toNat) 32))) else some b0))
def math_bits_Div64_p (n:Nat) (a0:UInt64) (a1:UInt64) (a2:UInt64):Option (UInt64 × UInt64):=
  (if a2 = (0:UInt64) then none else (if a2 ≤ a0 then none else (if a0 = (0:UInt64) then (quoW a1 a2).bind fun s6=>(remW a1 a2).bind fun s7=>some (s6,s7) else (math_bits_LeadingZeros64_p n a2).bind fun y8=>(quoW ((shlU a0 (u64of y8).toNat) ||| (shrU a1 ((64:UInt64) - (u64of y8)).toNat)) (shrU (shlU a2 (u64of y8).toNat) 32)).bind fun s9=>(some (((shlU a0 (u64of y8).toNat) ||| (shrU a1 ((64:UInt64) - (u64of y8)).toNat)) - (s9 * (shrU (shlU a2 (u64of y8).toNat) 32)))).bind fun p0=>jn (fun b0=>(some (((shlU a0 (u64of y8).toNat) ||| (shrU a1 ((64:UInt64) - (u64of y8)).toNat)) * (4294967296:UInt64))).bind fun c0=>(quoW ((c0 + (shrU (shlU a1 (u64of y8).toNat) 32)) - (b0 * (shlU a2 (u64of y8).toNat))) (shrU (shlU a2 (u64of y8).toNat) 32)).bind fun d0=>(some (((c0 + (shrU (shlU a1 (u64of y8).toNat) 32)) - (b0 * (shlU a2 (u64of y8).toNat))) - (d0 * (shrU (shlU a2 (u64of y8).toNat) 32)))).bind fun q0=>jn (fun g0=>(some (((c0 + (shrU (shlU a1 (u64of y8).toNat) 32)) - (b0 * (shlU a2 (u64of y8).toNat))) * (4294967296:UInt64))).bind fun s0=>(some ((s0 + ((shlU a1 (u64of y8).toNat) &&& (4294967295:UInt64))) - (g0 * (shlU a2 (u64of y8).toNat)))).bind fun t0=>some ((b0 * (4294967296:UInt64)) + g0,shrU t0 (u64of y8).toNat)) (fun k0=>Option.bind (loopF (math_bits_Div64_l1 n a2 y8 a1) n (d0,q0)) (k0))) (fun j0=>Option.bind (loopF (math_bits_Div64_l2 n a2 y8 a1) n (s9,p0)) (j0)))))
theorem math_bits_Div64_c (n:Nat) (L:List Nat) (w:World) (hL:∀ b ∈ L,b < w.heap.size) (a0:UInt64) (a1:UInt64) (a2:UInt64)  {r:UInt64 × UInt64} (h:math_bits_Div64_p n a0 a1 a2 = some r) :
    Calls Tryz.prog 214 #[vU a0,vU a1,vU a2] w (Gives w fun _ u=>u = .tuple #[vU r.1,vU r.2]):=by
 unfold math_bits_Div64_p at h
 have hS0:=Ax w
 refine AA Tryz.func214 rfl rfl rfl (fun _ cs0 hb0=>?_)
 refine Ac<|Ag rfl<|Ag rfl<|Aa<|Ak<|Ac<|Ae rfl<|Ab (FV.eqlU (a:=a2) (b:=(0:UInt64)) rfl rfl)<|Aa<|AQ rfl h (fun c1 h=>?_) (fun c1 h=>?_)
 refine Ar ?_
 cases h
 refine Aq<|Ak<|Ac<|Ae rfl<|Ae rfl<|Ab (FV.leqU (a:=a2) (b:=a0) rfl rfl)<|Aa<|AQ rfl h (fun c2 h=>?_) (fun c2 h=>?_)
 refine Ar ?_
 cases h
 refine Aq<|Ak<|Ac<|Ae rfl<|Ab (FV.eqlU (a:=a0) (b:=(0:UInt64)) rfl rfl)<|Aa<|AQ rfl h (fun c3 h=>?_) (fun c3 h=>?_)
 refine Ak<|AF 8 tb214_6 (by kernel_rfl) (by kernel_rfl) (by kernel_rfl) (fun kt4 kp5=>?_)
 refine Ah 0 1 kt4 rfl kp5 (fun _=>Ai rfl) rfl<|Ah 1 3 kt4 rfl kp5 (fun _=>Ai rfl) rfl ?_
 obtain ⟨s6,hs6,h⟩:=bi h
 refine Ah 2 7 kt4 rfl kp5 (fun _=>FV.quoV (a:=a1) (b:=a2) rfl rfl hs6) rfl<|Ah 3 15 kt4 rfl kp5 (fun _=>Ai rfl) rfl<|Ah 4 31 kt4 rfl kp5 (fun _=>Ai rfl) rfl ?_
 obtain ⟨s7,hs7,h⟩:=bi h
 refine Ah 5 63 kt4 rfl kp5 (fun _=>FV.remV (a:=a1) (b:=a2) rfl rfl hs7) rfl<|Ah 6 127 kt4 rfl kp5 (fun _=>AJ rfl) rfl<|Ah 7 255 kt4 rfl kp5 (fun _=>AJ rfl) rfl<|AE (doneD_ok kt4 (by kernel_rfl))<|Al rfl<|Ao hb0 Tryz.func214 rfl (.cons (.tmp rfl) (.cons (.tmp rfl) .nil)) rfl ?_
 cases h
 exact hS0.gv
 refine Aq<|Ac<|Ae rfl ?_
 obtain ⟨y8,hy8,h⟩:=bi h
 refine Bf (vI y8) body222 rfl (e1 rfl) (fun w9 hw9=>math_bits_LeadingZeros64_c n _ w9 (hS0.hL0 hL hw9) a2 hy8) rfl<|Ab (FV.convU (i:=y8) Tryz.underlying3 Tryz.underlying236 rfl)<|Ag rfl<|Aa<|Ac<|Ae rfl<|Ae rfl<|Ab (FV.shlU (a:=a2) (j:=(u64of y8).toNat) rfl rfl)<|Ag rfl<|Aa<|Ac<|Ae rfl<|Ab (FV.shrU (a:=shlU a2 (u64of y8).toNat) (j:=32) rfl rfl)<|Ag rfl<|Aa<|Ac<|Ae rfl<|Ab (FV.andU (a:=shlU a2 (u64of y8).toNat) (b:=(4294967295:UInt64)) rfl rfl)<|Ag rfl<|Aa<|Ac<|Ae rfl<|Ae rfl<|Ab (FV.shlU (a:=a0) (j:=(u64of y8).toNat) rfl rfl) ?_
 refine Ae rfl<|Ae rfl<|Ab (FV.subU (a:=(64:UInt64)) (b:=u64of y8) rfl rfl)<|Ab (FV.shrU (a:=a1) (j:=((64:UInt64) - (u64of y8)).toNat) rfl rfl)<|Ab (FV.orU (a:=shlU a0 (u64of y8).toNat) (b:=shrU a1 ((64:UInt64) - (u64of y8)).toNat) rfl rfl)<|Ag rfl<|Aa<|Ac<|Ae rfl<|Ae rfl<|Ab (FV.shlU (a:=a1) (j:=(u64of y8).toNat) rfl rfl)<|Ag rfl<|Aa<|Ac<|Ae rfl<|Ab (FV.shrU (a:=shlU a1 (u64of y8).toNat) (j:=32) rfl rfl)<|Ag rfl<|Aa<|Ac<|Ae rfl<|Ab (FV.andU (a:=shlU a1 (u64of y8).toNat) (b:=(4294967295:UInt64)) rfl rfl)<|Ag rfl<|Aa<|Ac ?_
 refine Ae rfl<|Ae rfl ?_
 obtain ⟨s9,hs9,h⟩:=bi h
 refine Ab (FV.quoV (a:=(shlU a0 (u64of y8).toNat) ||| (shrU a1 ((64:UInt64) - (u64of y8)).toNat)) (b:=shrU (shlU a2 (u64of y8).toNat) 32) rfl rfl hs9)<|Ag rfl<|Aa<|Ac<|Ae rfl<|Ae rfl<|Ae rfl<|Ab (FV.mulU (a:=s9) (b:=shrU (shlU a2 (u64of y8).toNat) 32) rfl rfl) ?_
 obtain ⟨p1,b1,h⟩:=bi h
 refine Ab (FV.as (FV.subU (a:=(shlU a0 (u64of y8).toNat) ||| (shrU a1 ((64:UInt64) - (u64of y8)).toNat)) (b:=s9 * (shrU (shlU a2 (u64of y8).toNat) 32)) rfl rfl) (congrArg (fun z:UInt64=>Value.int .u64 (z.toNat:Int)) (Option.some.inj b1)))<|Ag rfl<|Aa<|Ak<|Az<|MX.joinx (α:=UInt64) (fun b0=>[(2,vW ((shlU a2 (u64of y8).toNat).toNat:Int)),(8,vW ((u64of y8).toNat:Int)),(9,vW ((shrU (shlU a2 (u64of y8).toNat) 32).toNat:Int)),(10,vW (((shlU a2 (u64of y8).toNat) &&& (4294967295:UInt64)).toNat:Int)),(11,vW (((shlU a0 (u64of y8).toNat) ||| (shrU a1 ((64:UInt64) - (u64of y8)).toNat)).toNat:Int)),(13,vW ((shrU (shlU a1 (u64of y8).toNat) 32).toNat:Int)),(14,vW (((shlU a1 (u64of y8).toNat) &&& (4294967295:UInt64)).toNat:Int)),(15,vU b0)]) (fun b0 v0=>St w v0 []∧Tr w [] v0 []) (fun b0=>b0) (id:=0) rfl h ?_ ?_
 rintro b0 v0 ⟨V0,y1⟩ h
 try dsimp only at h
 refine Ac<|Ae rfl ?_
 obtain ⟨p0,d1,h⟩:=bi h
 refine Ab (FV.as (FV.mulU (a:=(shlU a0 (u64of y8).toNat) ||| (shrU a1 ((64:UInt64) - (u64of y8)).toNat)) (b:=(4294967296:UInt64)) rfl rfl) (congrArg (fun z:UInt64=>Value.int .u64 (z.toNat:Int)) (Option.some.inj d1)))<|Ae rfl<|Ab (FV.addU (a:=p0) (b:=shrU (shlU a1 (u64of y8).toNat) 32) rfl rfl)<|Ae rfl<|Ae rfl<|Ab (FV.mulU (a:=b0) (b:=shlU a2 (u64of y8).toNat) rfl rfl)<|Ab (FV.subU (a:=p0 + (shrU (shlU a1 (u64of y8).toNat) 32)) (b:=b0 * (shlU a2 (u64of y8).toNat)) rfl rfl)<|Ag rfl<|Aa<|Ac<|Ae rfl<|Ae rfl ?_
 obtain ⟨B0,Z0,h⟩:=bi h
 refine Ab (FV.quoV (a:=(p0 + (shrU (shlU a1 (u64of y8).toNat) 32)) - (b0 * (shlU a2 (u64of y8).toNat))) (b:=shrU (shlU a2 (u64of y8).toNat) 32) rfl rfl Z0)<|Ag rfl<|Aa<|Ac<|Ae rfl<|Ae rfl<|Ae rfl<|Ab (FV.mulU (a:=B0) (b:=shrU (shlU a2 (u64of y8).toNat) 32) rfl rfl) ?_
 obtain ⟨q1,g1,h⟩:=bi h
 refine Ab (FV.as (FV.subU (a:=(p0 + (shrU (shlU a1 (u64of y8).toNat) 32)) - (b0 * (shlU a2 (u64of y8).toNat))) (b:=B0 * (shrU (shlU a2 (u64of y8).toNat) 32)) rfl rfl) (congrArg (fun z:UInt64=>Value.int .u64 (z.toNat:Int)) (Option.some.inj g1)))<|Ag rfl<|Aa<|Ak<|Az<|MX.joinx (α:=UInt64) (fun k0=>[(2,vW ((shlU a2 (u64of y8).toNat).toNat:Int)),(8,vW ((u64of y8).toNat:Int)),(14,vW (((shlU a1 (u64of y8).toNat) &&& (4294967295:UInt64)).toNat:Int)),(15,vU b0),(17,vW (((p0 + (shrU (shlU a1 (u64of y8).toNat) 32)) - (b0 * (shlU a2 (u64of y8).toNat))).toNat:Int)),(18,vU k0)]) (fun k0 E0=>St w E0 []∧Tr v0 [] E0 []) (fun k0=>k0) (id:=2) rfl h ?_ ?_
 rintro k0 E0 ⟨W0,z1⟩ h
 try dsimp only at h
 refine Ac<|Ae rfl<|Ab (FV.mulU (a:=b0) (b:=(4294967296:UInt64)) rfl rfl)<|Ae rfl<|Ab (FV.addU (a:=b0 * (4294967296:UInt64)) (b:=k0) rfl rfl)<|Ae rfl ?_
 obtain ⟨H0,j1,h⟩:=bi h
 refine Ab (FV.as (FV.mulU (a:=(p0 + (shrU (shlU a1 (u64of y8).toNat) 32)) - (b0 * (shlU a2 (u64of y8).toNat))) (b:=(4294967296:UInt64)) rfl rfl) (congrArg (fun z:UInt64=>Value.int .u64 (z.toNat:Int)) (Option.some.inj j1)))<|Ae rfl<|Ab (FV.addU (a:=H0) (b:=(shlU a1 (u64of y8).toNat) &&& (4294967295:UInt64)) rfl rfl)<|Ae rfl<|Ae rfl<|Ab (FV.mulU (a:=k0) (b:=shlU a2 (u64of y8).toNat) rfl rfl) ?_
 obtain ⟨s1,k1,h⟩:=bi h
 refine Ab (FV.as (FV.subU (a:=H0 + ((shlU a1 (u64of y8).toNat) &&& (4294967295:UInt64))) (b:=k0 * (shlU a2 (u64of y8).toNat)) rfl rfl) (congrArg (fun z:UInt64=>Value.int .u64 (z.toNat:Int)) (Option.some.inj k1)))<|Ae rfl<|Ab (FV.shrU (a:=s1) (j:=(u64of y8).toNat) rfl rfl)<|Ag rfl<|Ag rfl<|Aa<|Al rfl<|Ao hb0 Tryz.func214 rfl (.cons (.tmp rfl) (.cons (.tmp rfl) .nil)) rfl ?_
 cases h
 exact W0.gv
 intro x1 y0 h
 try dsimp only at h
 obtain ⟨A1,X0,z0⟩:=bind_in2 h
 refine Bj (α:=UInt64 × UInt64) (fun ⟨c0,g0⟩=>[(2,vW ((shlU a2 (u64of y8).toNat).toNat:Int)),(8,vW ((u64of y8).toNat:Int)),(9,vW ((shrU (shlU a2 (u64of y8).toNat) 32).toNat:Int)),(10,vW (((shlU a2 (u64of y8).toNat) &&& (4294967295:UInt64)).toNat:Int)),(14,vW (((shlU a1 (u64of y8).toNat) &&& (4294967295:UInt64)).toNat:Int)),(15,vU b0),(17,vW (((p0 + (shrU (shlU a1 (u64of y8).toNat) 32)) - (b0 * (shlU a2 (u64of y8).toNat))).toNat:Int)),(18,vU c0),(16,vU g0)]) (fun ⟨c0,g0⟩ C0=>St w C0 []∧Tr v0 [] C0 []) (fun ⟨c0,g0⟩=>(c0,g0)) (B0,q1) X0 ⟨rfl,rfl,rfl,rfl,rfl,rfl,rfl,rfl,rfl,trivial⟩ ⟨V0,AP _ _⟩ ?_
 rintro t1 ⟨c0,g0⟩ C0 F0 ⟨q0,t0⟩ h
 unfold math_bits_Div64_l1 at h
 try dsimp only at h
 refine Ak<|Ac<|Ae rfl<|Ab (FV.geqU (a:=c0) (b:=(4294967296:UInt64)) rfl rfl)<|Ae rfl<|RG.ifd (s:=104) rfl h (fun I0 h=>?_) (fun I0 h=>?_)
 refine AR<|AR<|AR<|AR<|AR<|AR<|AR<|AR<|RG.pt rfl rfl<|Aa<|Bp rfl<|Aq<|Az<|Ac<|Ae rfl<|Ab (FV.subU (a:=c0) (b:=(1:UInt64)) rfl rfl)<|Ag rfl<|Aa<|Ac<|Ae rfl<|Ae rfl<|Ab (FV.addU (a:=g0) (b:=shrU (shlU a2 (u64of y8).toNat) 32) rfl rfl)<|Ag rfl<|Aa ?_
 refine Ac<|Ae rfl<|Ab (FV.geqU (a:=g0 + (shrU (shlU a2 (u64of y8).toNat) 32)) (b:=(4294967296:UInt64)) rfl rfl)<|Aa<|AQ rfl h (fun J0 h=>?_) (fun J0 h=>?_)
 refine Be rfl ?_
 have h:=z0 _ h
 try dsimp only at h
 exact y0 (c0 - (1:UInt64)) _ _ ⟨rfl,rfl,rfl,rfl,rfl,rfl,trivial⟩ ⟨q0,t0⟩ h
 refine Aq<|AC ?_
 exact F0 (c0 - (1:UInt64),g0 + (shrU (shlU a2 (u64of y8).toNat) 32)) _ _ ⟨rfl,rfl,rfl,rfl,rfl,rfl,rfl,rfl,rfl,trivial⟩ ⟨q0,t0⟩ h
 refine AY (Ai rfl)<|AY (Ai rfl)<|AY (FV.mulU (a:=c0) (b:=(shlU a2 (u64of y8).toNat) &&& (4294967295:UInt64)) rfl rfl)<|AY (Ai rfl)<|AY (FV.mulU (a:=(4294967296:UInt64)) (b:=g0) rfl rfl)<|AY (Ai rfl)<|AY (FV.addU (a:=(4294967296:UInt64) * g0) (b:=(shlU a1 (u64of y8).toNat) &&& (4294967295:UInt64)) rfl rfl)<|AY (FV.gtrU (a:=c0 * ((shlU a2 (u64of y8).toNat) &&& (4294967295:UInt64))) (b:=((4294967296:UInt64) * g0) + ((shlU a1 (u64of y8).toNat) &&& (4294967295:UInt64))) rfl rfl)<|RG.pf rfl rfl<|Aa<|AQ rfl h (fun K0 h=>?_) (fun K0 h=>?_)
 refine Aq<|Az<|Ac<|Ae rfl<|Ab (FV.subU (a:=c0) (b:=(1:UInt64)) rfl rfl)<|Ag rfl<|Aa<|Ac<|Ae rfl<|Ae rfl<|Ab (FV.addU (a:=g0) (b:=shrU (shlU a2 (u64of y8).toNat) 32) rfl rfl)<|Ag rfl<|Aa<|Ac<|Ae rfl<|Ab (FV.geqU (a:=g0 + (shrU (shlU a2 (u64of y8).toNat) 32)) (b:=(4294967296:UInt64)) rfl rfl)<|Aa<|AQ rfl h (fun M0 h=>?_) (fun M0 h=>?_)
 refine Be rfl ?_
 have h:=z0 _ h
 try dsimp only at h
 exact y0 (c0 - (1:UInt64)) _ _ ⟨rfl,rfl,rfl,rfl,rfl,rfl,trivial⟩ ⟨q0,t0⟩ h
 refine Aq<|AC ?_
 exact F0 (c0 - (1:UInt64),g0 + (shrU (shlU a2 (u64of y8).toNat) 32)) _ _ ⟨rfl,rfl,rfl,rfl,rfl,rfl,rfl,rfl,rfl,trivial⟩ ⟨q0,t0⟩ h
 refine Be rfl ?_
 have h:=z0 _ h
 try dsimp only at h
 exact y0 c0 _ _ ⟨rfl,rfl,rfl,rfl,rfl,rfl,trivial⟩ ⟨q0,t0⟩ h
 intro v1 x0 h
 try dsimp only at h
 obtain ⟨B1,Y0,A0⟩:=bind_in2 h
 refine Bj (α:=UInt64 × UInt64) (fun ⟨d0,j0⟩=>[(2,vW ((shlU a2 (u64of y8).toNat).toNat:Int)),(8,vW ((u64of y8).toNat:Int)),(9,vW ((shrU (shlU a2 (u64of y8).toNat) 32).toNat:Int)),(10,vW (((shlU a2 (u64of y8).toNat) &&& (4294967295:UInt64)).toNat:Int)),(11,vW (((shlU a0 (u64of y8).toNat) ||| (shrU a1 ((64:UInt64) - (u64of y8)).toNat)).toNat:Int)),(13,vW ((shrU (shlU a1 (u64of y8).toNat) 32).toNat:Int)),(14,vW (((shlU a1 (u64of y8).toNat) &&& (4294967295:UInt64)).toNat:Int)),(15,vU d0),(16,vU j0)]) (fun ⟨d0,j0⟩ D0=>St w D0 []∧Tr w [] D0 []) (fun ⟨d0,j0⟩=>(d0,j0)) (s9,p1) Y0 ⟨rfl,rfl,rfl,rfl,rfl,rfl,rfl,rfl,rfl,trivial⟩ ⟨hS0,AP _ _⟩ ?_
 rintro u1 ⟨d0,j0⟩ D0 G0 ⟨s0,u0⟩ h
 unfold math_bits_Div64_l2 at h
 try dsimp only at h
 refine Ak<|Ac<|Ae rfl<|Ab (FV.geqU (a:=d0) (b:=(4294967296:UInt64)) rfl rfl)<|Ae rfl<|RG.ifd (s:=69) rfl h (fun P0 h=>?_) (fun P0 h=>?_)
 refine AR<|AR<|AR<|AR<|AR<|AR<|AR<|AR<|RG.pt rfl rfl<|Aa<|Bp rfl<|Aq<|Az<|Ac<|Ae rfl<|Ab (FV.subU (a:=d0) (b:=(1:UInt64)) rfl rfl)<|Ag rfl<|Aa<|Ac<|Ae rfl<|Ae rfl<|Ab (FV.addU (a:=j0) (b:=shrU (shlU a2 (u64of y8).toNat) 32) rfl rfl)<|Ag rfl<|Aa ?_
 refine Ac<|Ae rfl<|Ab (FV.geqU (a:=j0 + (shrU (shlU a2 (u64of y8).toNat) 32)) (b:=(4294967296:UInt64)) rfl rfl)<|Aa<|AQ rfl h (fun Q0 h=>?_) (fun Q0 h=>?_)
 refine Be rfl ?_
 have h:=A0 _ h
 try dsimp only at h
 exact x0 (d0 - (1:UInt64)) _ _ ⟨rfl,rfl,rfl,rfl,rfl,rfl,rfl,rfl,trivial⟩ ⟨s0,u0⟩ h
 refine Aq<|AC ?_
 exact G0 (d0 - (1:UInt64),j0 + (shrU (shlU a2 (u64of y8).toNat) 32)) _ _ ⟨rfl,rfl,rfl,rfl,rfl,rfl,rfl,rfl,rfl,trivial⟩ ⟨s0,u0⟩ h
 refine AY (Ai rfl)<|AY (Ai rfl)<|AY (FV.mulU (a:=d0) (b:=(shlU a2 (u64of y8).toNat) &&& (4294967295:UInt64)) rfl rfl)<|AY (Ai rfl)<|AY (FV.mulU (a:=(4294967296:UInt64)) (b:=j0) rfl rfl)<|AY (Ai rfl)<|AY (FV.addU (a:=(4294967296:UInt64) * j0) (b:=shrU (shlU a1 (u64of y8).toNat) 32) rfl rfl)<|AY (FV.gtrU (a:=d0 * ((shlU a2 (u64of y8).toNat) &&& (4294967295:UInt64))) (b:=((4294967296:UInt64) * j0) + (shrU (shlU a1 (u64of y8).toNat) 32)) rfl rfl)<|RG.pf rfl rfl<|Aa<|AQ rfl h (fun R0 h=>?_) (fun R0 h=>?_)
 refine Aq<|Az<|Ac<|Ae rfl<|Ab (FV.subU (a:=d0) (b:=(1:UInt64)) rfl rfl)<|Ag rfl<|Aa<|Ac<|Ae rfl<|Ae rfl<|Ab (FV.addU (a:=j0) (b:=shrU (shlU a2 (u64of y8).toNat) 32) rfl rfl)<|Ag rfl<|Aa<|Ac<|Ae rfl<|Ab (FV.geqU (a:=j0 + (shrU (shlU a2 (u64of y8).toNat) 32)) (b:=(4294967296:UInt64)) rfl rfl)<|Aa<|AQ rfl h (fun U0 h=>?_) (fun U0 h=>?_)
 refine Be rfl ?_
 have h:=A0 _ h
 try dsimp only at h
 exact x0 (d0 - (1:UInt64)) _ _ ⟨rfl,rfl,rfl,rfl,rfl,rfl,rfl,rfl,trivial⟩ ⟨s0,u0⟩ h
 refine Aq<|AC ?_
 exact G0 (d0 - (1:UInt64),j0 + (shrU (shlU a2 (u64of y8).toNat) 32)) _ _ ⟨rfl,rfl,rfl,rfl,rfl,rfl,rfl,rfl,rfl,trivial⟩ ⟨s0,u0⟩ h
 refine Be rfl ?_
 have h:=A0 _ h
 try dsimp only at h
 exact x0 d0 _ _ ⟨rfl,rfl,rfl,rfl,rfl,rfl,rfl,rfl,trivial⟩ ⟨s0,u0⟩ h
def wide_length_p (n:Nat) (a0:List UInt64):Option Int:=
  (if a0.length = 0 then some (0:Int) else (chk (64 * ((a0.length:Nat):Int))).bind fun s3=>(idx a0 (((a0.length:Nat):Int) - 1)).bind fun x4=>(math_bits_LeadingZeros64_p n x4).bind fun c0=>(chk (s3 - c0)).bind fun b0=>some b0)
theorem wide_length_c (n:Nat) (L:List Nat) (w:World) (hL:∀ b ∈ L,b < w.heap.size) (a0:List UInt64) {v0_0:Value} (h0_0:Rep.R w L [v0_0] a0)  {r:Int} (h:wide_length_p n a0 = some r) :
    Calls Tryz.prog 215 #[v0_0] w (Gives w fun _ u=>u = vI r):=by
 unfold wide_length_p at h
 have hS0:=Ax w
 refine AA Tryz.func215 rfl rfl rfl (fun _ cs0 hb0=>?_)
 refine Ac<|Ag rfl<|Aa<|Ak<|Ac<|Ae rfl ?_
 have hl1:a0.length ≤ 281474976710656:=AT h0_0
 refine Ab (Bb (xs:=a0) Tryz.underlying121 rfl h0_0)<|Ab (FV.eqlN (i:=a0.length) (j:=0) rfl rfl)<|Aa<|AQ rfl h (fun c2 h=>?_) (fun c2 h=>?_)
 refine Ac<|Ag rfl<|Aa<|Al rfl<|Bc hb0 Tryz.func215 rfl rfl ?_
 cases h
 exact hS0.gv
 refine Aq<|Ac<|Ae rfl<|Ab (Bb (xs:=a0) Tryz.underlying121 rfl h0_0) ?_
 obtain ⟨s3,hs3,h⟩:=bi h
 refine Ab (FV.mulc (i:=64) (j:=((a0.length:Nat):Int)) rfl rfl hs3)<|Ae rfl<|Ae rfl<|Ab (Bb (xs:=a0) Tryz.underlying121 rfl h0_0)<|Ab (FV.subI (i:=((a0.length:Nat):Int)) (j:=1) rfl rfl (by omega)) ?_
 obtain ⟨x4,hx4,h⟩:=bi h
 obtain ⟨hi5,hx6⟩:=idx_in hx4
 obtain ⟨A7,c8,he9,g0,c0,k0,j0⟩:=Bm h0_0 hx6
 have d0:c0 = [vU x4]:=k0; subst d0
 refine Ab (FV.idxAddr (m:=1) (i:=(((a0.length:Nat):Int) - 1).toNat) (by kernel_rfl) rfl he9 rfl hi5 g0)<|Bd rfl (j0 0 _ rfl) ?_
 obtain ⟨b0,q0,h⟩:=bi h
 refine Bf (vI b0) body222 rfl (e1 rfl) (fun w9 hw9=>math_bits_LeadingZeros64_c n _ w9 (hS0.hL0 hL hw9) x4 q0) rfl ?_
 obtain ⟨s0,p0,h⟩:=bi h
 refine Ab (FV.subc (i:=s3) (j:=b0) rfl rfl p0)<|Ag rfl<|Aa<|Al rfl<|Bc hb0 Tryz.func215 rfl rfl ?_
 cases h
 exact hS0.gv
def tb216_5:List (Nat × Nat × Nat):=[(0,4194304,32),(0,8388608,64),(0,16777216,2),(4,33554432,16777216),(10,67108864,41943040),(17,134217728,71303168),(32,268435456,134217728),(0,536870912,128),(0,1073741824,2),(256,2147483648,1073741824),(640,4294967296,2684354560),(1088,8589934592,4563402752),(4095,17179869184,71303168),(8191,0,25769803776)]
def wide_moved_l1 (_n:Nat) (a0:List UInt64) (a1:Int) (g0:Nat × (List UInt64) → Option (List UInt64)):Nat × (List UInt64) → Option (List UInt64)
  | (b0,c0)=>(if b0 < a0.length then (a0[b0]?).bind fun p0=>(quoI a1 64).bind fun t0=>(chk (((b0:Nat):Int) + t0)).bind fun j0=>(idx c0 j0).bind fun B0=>(remI a1 64).bind fun u0=>(natOf u0).bind fun q0=>(put c0 ((j0.toNat:Nat):Int) (B0 ||| (shlU p0 q0))).bind fun d0=>(remI a1 64).bind fun v0=>(if 0 < v0 then (quoI a1 64).bind fun x0=>(chk (((b0:Nat):Int) + x0)).bind fun y0=>(chk (y0 + 1)).bind fun k0=>(remI a1 64).bind fun z0=>(chk (64 - z0)).bind fun A0=>(natOf A0).bind fun s0=>(idx d0 k0).bind fun D0=>(put d0 ((k0.toNat:Nat):Int) (shrU p0 s0)).bind fun C0=>g0 (b0 + 1,C0) else g0 (b0 + 1,d0)) else some c0)
def wide_moved_p (n:Nat) (a0:List UInt64) (a1:Int):Option (List UInt64):=
  (quoI a1 64).bind fun s2=>(chk (((a0.length:Nat):Int) + s2)).bind fun s3=>(chk (s3 + 1)).bind fun s4=>(mk s4 (0:UInt64)).bind fun b0=>Option.bind (loopF (wide_moved_l1 n a0 a1) n (0,b0)) (fun c0=>(wide_trimmed_p n false c0).bind fun d0=>some d0.fWords)
theorem wide_moved_c (n:Nat) (L:List Nat) (w:World) (hL:∀ b ∈ L,b < w.heap.size) (a0:List UInt64) {v0_0:Value} (h0_0:Rep.R w L [v0_0] a0) (a1:Int)  {r:List UInt64} (h:wide_moved_p n a0 a1 = some r) :
    Calls Tryz.prog 216 #[v0_0,vI a1] w (Gives w fun w' u=>∃ v0_0:Value,u = v0_0∧Rep.R w' L [v0_0] r):=by
 unfold wide_moved_p at h
 have hS0:=Ax w
 refine AA Tryz.func216 rfl rfl rfl (fun _ cs0 hb0=>?_)
 refine Ac<|Ag rfl<|Aa<|Ac<|Ae rfl ?_
 have hl1:a0.length ≤ 281474976710656:=AT h0_0
 refine Ab (Bb (xs:=a0) Tryz.underlying121 rfl h0_0)<|Ae rfl ?_
 obtain ⟨s2,hs2,h⟩:=bi h
 refine Ab (FV.quoc (i:=a1) (j:=64) rfl rfl hs2) ?_
 obtain ⟨s3,hs3,h⟩:=bi h
 refine Ab (BC (i:=((a0.length:Nat):Int)) (j:=s2) rfl rfl hs3) ?_
 obtain ⟨s4,hs4,h⟩:=bi h
 refine Ab (BC (i:=s3) (j:=1) rfl rfl hs4) ?_
 obtain ⟨D0,P0,h⟩:=bi h
 refine Aj .plain rfl (Does.mk (α:=UInt64) P0 hS0 el121 rfl) (fun H2 p0 v0 Y2=>?_)
 have u1:=AG (cs:=(List.replicate s4.toNat [vW 0]).flatten) (xs:=D0) v0 L (Cells.mk P0 rfl)
 refine Ag rfl<|Aa<|Ak<|Ac<|Ae rfl ?_
 have G1:=AM h0_0 v0
 refine Ab (Bb (xs:=a0) Tryz.underlying121 rfl G1)<|Ae rfl<|Aa<|Az ?_
 obtain ⟨g3,K1,B1⟩:=bind_in2 h
 refine Bj (α:=Nat × (List UInt64) × (List Value)) (fun ⟨c0,g0,j0⟩=>[(1,vI a1),(5,(.slice (some ⟨p0,0,none⟩) s4.toNat s4.toNat)),(15,v0_0),(16,vI ((a0.length:Nat):Int)),(17,vI ((c0:Nat):Int))]) (fun ⟨c0,g0,j0⟩ t0=>St w t0 [.row w.heap.size 33 (Rep.size UInt64) (.slice (some ⟨p0,0,none⟩) s4.toNat s4.toNat) g0.length j0]∧Tr H2 [.row w.heap.size 33 (Rep.size UInt64) (.slice (some ⟨p0,0,none⟩) s4.toNat s4.toNat) D0.length ((List.replicate s4.toNat [vW 0]).flatten)] t0 [.row w.heap.size 33 (Rep.size UInt64) (.slice (some ⟨p0,0,none⟩) s4.toNat s4.toNat) g0.length j0]∧Cells t0 (bl [.row w.heap.size 33 (Rep.size UInt64) (.slice (some ⟨p0,0,none⟩) s4.toNat s4.toNat) g0.length j0] ++ L) j0 g0) (fun ⟨c0,g0,j0⟩=>(c0,g0)) (0,D0,(List.replicate s4.toNat [vW 0]).flatten) K1 ⟨rfl,rfl,rfl,rfl,rfl,trivial⟩ ⟨v0,AP _ _,u1⟩ ?_
 rintro Q2 ⟨c0,g0,j0⟩ t0 E0 ⟨k0,G0,y0⟩ h
 unfold wide_moved_l1 at h
 try dsimp only at h
 refine Ac<|Ab (Bn (i:=c0) (j:=a0.length) rfl rfl)<|Aa<|Ak<|AQ rfl h (fun Z0 h=>?_) (fun Z0 h=>?_)
 refine Aq<|Ak<|Az<|Ac<|Ae rfl ?_
 obtain ⟨u0,k2,h⟩:=bi h
 have I1:=AM h0_0 k0
 obtain ⟨P2,R2,x1,D1,c1,M1,H1⟩:=Bm I1 k2
 have y1:c1 = [vU u0]:=M1; subst y1
 refine Ab (Bo 1 c0 rfl x1 rfl rfl D1)<|Bd rfl (H1 0 _ rfl)<|Ag rfl<|Ag rfl<|Aa<|Ak<|AF 13 tb216_5 (by kernel_rfl) (by kernel_rfl) (by kernel_rfl) (fun b0 d0=>?_)
 refine Ah 0 1 b0 rfl d0 (fun _=>Ai rfl) rfl<|Ah 1 3 b0 rfl d0 (fun _=>Ai rfl) rfl<|Ah 2 7 b0 rfl d0 (fun _=>Ai rfl) rfl ?_
 obtain ⟨A2,W1,h⟩:=bi h
 refine Ah 3 15 b0 rfl d0 (fun _=>FV.quoc (i:=a1) (j:=64) rfl rfl W1) rfl ?_
 obtain ⟨C0,X1,h⟩:=bi h
 refine Ah 4 31 b0 rfl d0 (fun _=>BC (i:=((c0:Nat):Int)) (j:=A2) rfl rfl X1) rfl ?_
 obtain ⟨U0,p2,h⟩:=bi h
 obtain ⟨K0,q2⟩:=idx_in p2
 obtain ⟨V0,U2,s0,B0,d1,P1,J1⟩:=St.nth (α:=UInt64) k0 .hd y0 q2
 obtain ⟨X0,V2,I0⟩:=St.nthOwn (α:=UInt64) k0 .hd B0
 obtain rfl:V0 = ⟨X0,0,none⟩:=by rw [I0] at s0; cases s0; rfl
 have z1:d1 = [vU U0]:=P1; subst z1
 refine Ah 5 63 b0 rfl d0 (fun _=>Bo 1 (C0.toNat) rfl s0 rfl K0 B0) rfl<|AD 6 127 14336 b0 rfl d0 (AK rfl (J1 0 _ rfl)) rfl<|Ah 7 255 b0 rfl d0 (fun _=>Ai rfl) rfl<|Ah 8 511 b0 rfl d0 (fun _=>Ai rfl) rfl ?_
 obtain ⟨B2,Y1,h⟩:=bi h
 refine Ah 9 1023 b0 rfl d0 (fun _=>FV.remc (i:=a1) (j:=64) rfl rfl Y1) rfl ?_
 obtain ⟨z2,E1,h⟩:=bi h
 refine Ah 10 2047 b0 rfl d0 (fun _=>FV.shlI (a:=u0) (i:=B2) rfl rfl E1) rfl<|Ah 11 4095 b0 rfl d0 (fun _=>FV.orU (a:=U0) (b:=shlU u0 z2) rfl rfl) rfl<|Ah 12 8191 b0 rfl d0 (fun _=>Bo 1 (C0.toNat) rfl s0 rfl K0 B0) rfl ?_
 obtain ⟨J2,v2,h⟩:=bi h
 refine Bs (i:=13) (readyD_ok b0 (by kernel_rfl)) (RO.acts (m' :=16383) (stepC_ok b0 (by kernel_rfl)) rfl rfl .plain (Acts.set (α:=UInt64) (i:=C0.toNat) v2 k0 I0 (fun _=>.hd) y0 rfl rfl rfl rfl rfl (by kernel_rfl)) (fun k3 ⟨g1,q0,H0,z0⟩=>?_))
 refine AE (doneD_ok b0 (by kernel_rfl))<|Ac<|Ae rfl ?_
 obtain ⟨C2,Z1,h⟩:=bi h
 refine Ab (FV.remc (i:=a1) (j:=64) rfl rfl Z1)<|Ab (FV.gtr (i:=C2) (j:=0) rfl rfl)<|Aa<|AQ rfl h (fun b1 h=>?_) (fun b1 h=>?_)
 refine Ar<|Ae rfl<|Ae rfl<|Ae rfl ?_
 obtain ⟨D2,b2,h⟩:=bi h
 refine Ab (FV.quoc (i:=a1) (j:=64) rfl rfl b2) ?_
 obtain ⟨E2,c2,h⟩:=bi h
 refine Ab (BC (i:=((c0:Nat):Int)) (j:=D2) rfl rfl c2) ?_
 obtain ⟨Q0,d2,h⟩:=bi h
 refine Ab (BC (i:=E2) (j:=1) rfl rfl d2)<|Ae rfl<|Ae rfl ?_
 obtain ⟨F2,g2,h⟩:=bi h
 refine Ab (FV.remc (i:=a1) (j:=64) rfl rfl g2) ?_
 obtain ⟨G2,j2,h⟩:=bi h
 refine Ab (FV.subc (i:=64) (j:=F2) rfl rfl j2) ?_
 obtain ⟨d3,F1,h⟩:=bi h
 refine Ab (FV.shrI (a:=u0) (i:=G2) rfl rfl F1) ?_
 obtain ⟨I2,t2,h⟩:=bi h
 obtain ⟨C1,u2⟩:=idx_in t2
 obtain ⟨W0,W2,A0,M0,j1,Q1,c3⟩:=St.nth (α:=UInt64) q0 .hd z0 u2
 obtain ⟨Y0,X2,J0⟩:=St.nthOwn (α:=UInt64) q0 .hd M0
 obtain rfl:W0 = ⟨Y0,0,none⟩:=by rw [J0] at A0; cases A0; rfl
 have A1:j1 = [vU I2]:=Q1; subst A1
 refine Ab (Bo 1 (Q0.toNat) rfl A0 rfl C1 M0) ?_
 obtain ⟨K2,x2,h⟩:=bi h
 refine RG.acts' .plain (Acts.set (α:=UInt64) (i:=Q0.toNat) x2 q0 J0 (fun _=>.hd) z0 rfl rfl rfl rfl rfl (by kernel_rfl)) (fun p3 ⟨k1,p1,q1,v1⟩=>?_)
 refine Aa<|AC<|Ar<|Ab (Br (i:=c0) (j:=1) rfl rfl (by omega))<|Ae rfl<|Aa ?_
 exact E0 (c0 + 1,K2,k1) _ _ ⟨rfl,rfl,rfl,rfl,rfl,trivial⟩ ⟨p1,(Tt G0 (Tt H0 q1)),v1⟩ h
 refine Aq<|AC<|Ar<|Ab (Br (i:=c0) (j:=1) rfl rfl (by omega))<|Ae rfl<|Aa ?_
 exact E0 (c0 + 1,J2,g1) _ _ ⟨rfl,rfl,rfl,rfl,rfl,trivial⟩ ⟨q0,(Tt G0 H0),z0⟩ h
 refine Be rfl ?_
 have h:=B1 _ h
 try dsimp only at h
 refine Ac<|Ae rfl ?_
 have R1:=Bq (α:=UInt64) k0 .hd y0 hL
 have x0:=BD k0 .hd
 have Z2:=BE k0 .hd
 have U1:=BF (α:=UInt64) (v:=(.slice (some ⟨p0,0,none⟩) s4.toNat s4.toNat)) (xs:=g0) x0 L R1
 obtain ⟨M2,y2,h⟩:=bi h
 refine AX (fst:=[]) (cap:=[]) .plain body169 rfl (e2 rfl rfl) (fun w9 hw9=>wide_trimmed_c n _ w9 (x0.hL hL hw9) false g0 (Am U1 hw9) y2) rfl (fun q3 j3 s1 ⟨R0,hu_,V1⟩=>?_)
 subst hu_
 obtain ⟨F0,b3⟩:=x0.agr s1
 refine Ab (FV.field1 (cs:=[.bool M2.fBelow,R0]) (off:=1) (m:=1) (by kernel_rfl) (by kernel_rfl) rfl rfl)<|Ag rfl<|Aa<|Al rfl<|Bc hb0 Tryz.func216 rfl rfl ?_
 cases h
 exact ⟨F0.ag,fun w9 hw9=>⟨R0,rfl,F0.kd V1 hw9⟩⟩
def tb194_7:List (Nat × Nat × Nat):=[(0,16777216,16),(0,33554432,128),(0,67108864,64),(0,134217728,1),(0,268435456,128),(24,536870912,402653184),(32,1073741824,536870912),(0,2147483648,2),(128,4294967296,2147483648),(256,8589934592,4294967296),(580,17179869184,9730785280),(1024,8388608,17179869184),(2048,34359738368,8388608),(2048,68719476736,8388608),(8191,137438953472,50331648),(24575,0,171798691840),(65535,64,68719476736)]
def tb194_16:List (Nat × Nat × Nat):=[(0,36893488147419103232,16),(0,73786976294838206464,256),(2,147573952589676412928,73786976294838206464),(5,295147905179352825856,184467440737095516160),(8,590295810358705651712,295147905179352825856),(0,1180591620717411303424,256),(32,2361183241434822606848,1180591620717411303424),(64,4722366482869645213696,2361183241434822606848),(144,9444732965739290427392,5312662293228350865408),(511,18889465931478580854784,184467440737095516160),(1023,0,28334198897217871282176)]
theorem body172:bodyB Tryz.prog 172 = true:=by kernel_rfl
theorem body173:bodyB Tryz.prog 173 = true:=by kernel_rfl
theorem body214:bodyB Tryz.prog 214 = true:=by kernel_rfl
theorem body215:bodyB Tryz.prog 215 = true:=by kernel_rfl
theorem body216:bodyB Tryz.prog 216 = true:=by kernel_rfl
def wide_divided_l1 (n:Nat) (a0:List UInt64) (a1:List UInt64) (j0:UInt64 × Int × (List UInt64) → Option (UInt64 × (List UInt64))):UInt64 × Int × (List UInt64) → Option (UInt64 × (List UInt64))
  | (d0,b0,c0)=>(if 0 ≤ b0 then (idx a0 b0).bind fun p0=>(a1[0]?).bind fun q0=>(math_bits_Div64_p n d0 p0 q0).bind fun g0=>(idx c0 b0).bind fun t0=>(put c0 ((b0.toNat:Nat):Int) g0.1).bind fun s0=>(chk (b0 - 1)).bind fun k0=>j0 (g0.2,k0,s0) else some (d0,c0))
def wide_divided_l2 (n:Nat) (a1:List UInt64) (p0:(List UInt64) × Int × (List UInt64) → Option ((List UInt64) × (List UInt64))):(List UInt64) × Int × (List UInt64) → Option ((List UInt64) × (List UInt64))
  | (c0,b0,d0)=>(if 0 ≤ b0 then (wide_moved_p n a1 b0).bind fun k0=>(wide_compared_p n c0 k0).bind fun z0=>jn (fun (v0,x0)=>(chk (b0 - 1)).bind fun s0=>p0 (v0,s0,x0)) (fun g0=>(if 0 ≤ z0 then (wide_taken_p n c0 k0).bind fun A0=>(wide_trimmed_p n false A0).bind fun B0=>(quoI b0 64).bind fun j0=>(idx d0 j0).bind fun u0=>(remI b0 64).bind fun t0=>(natOf t0).bind fun q0=>(put d0 ((j0.toNat:Nat):Int) (u0 ||| (shlU (1:UInt64) q0))).bind fun y0=>g0 (B0.fWords,y0) else g0 (c0,d0))) else some (d0,c0))
def wide_divided_p (n:Nat) (a0:List UInt64) (a1:List UInt64):Option ((List UInt64) × (List UInt64)):=
  (mk ((a0.length:Nat):Int) (0:UInt64)).bind fun b0=>(if a1.length = 1 then Option.bind (loopF (wide_divided_l1 n a0 a1) n ((0:UInt64),((a0.length:Nat):Int) - 1,b0)) (fun (d0,g0)=>(wide_trimmed_p n false ([d0]:List UInt64)).bind fun p0=>some (g0,p0.fWords)) else (wide_length_p n a0).bind fun q0=>(wide_length_p n a1).bind fun s0=>(chk (q0 - s0)).bind fun c0=>Option.bind (loopF (wide_divided_l2 n a1) n (a0,c0,b0)) (fun (k0,j0)=>some (k0,j0)))
theorem wide_divided_c (n:Nat) (L:List Nat) (w:World) (hL:∀ b ∈ L,b < w.heap.size) (a0:List UInt64) {v0_0:Value} (h0_0:Rep.R w L [v0_0] a0) (a1:List UInt64) {v1_0:Value} (h1_0:Rep.R w L [v1_0] a1)  {r:(List UInt64) × (List UInt64)} (h:wide_divided_p n a0 a1 = some r) :
    Calls Tryz.prog 194 #[v0_0,v1_0] w (Gives w fun w' u=>∃ v0_0 v1_0:Value,u = .tuple #[v0_0,v1_0]∧Rep.R w' L [v0_0] r.1∧Rep.R w' L [v1_0] r.2):=by
 unfold wide_divided_p at h
 have hS0:=Ax w
 refine AA Tryz.func194 rfl rfl rfl (fun _ cs0 hb0=>?_)
 refine Ac<|Ag rfl<|Ag rfl<|Aa<|Ac<|Ae rfl ?_
 have hl1:a0.length ≤ 281474976710656:=AT h0_0
 refine Ab (Bb (xs:=a0) Tryz.underlying121 rfl h0_0) ?_
 obtain ⟨K0,F1,h⟩:=bi h
 refine Aj .plain rfl (Does.mk (α:=UInt64) F1 hS0 el121 rfl) (fun I1 b0 t0 y5=>?_)
 have v1:=AG (cs:=(List.replicate ((a0.length:Nat):Int).toNat [vW 0]).flatten) (xs:=K0) t0 L (Cells.mk F1 rfl)
 refine Ag rfl<|Aa<|Ak<|Ac<|Ae rfl ?_
 have B1:=AM h1_0 t0
 have z5:a1.length ≤ 281474976710656:=AT B1
 refine Ab (Bb (xs:=a1) Tryz.underlying121 rfl B1)<|Ab (FV.eqlN (i:=a1.length) (j:=1) rfl rfl)<|Aa<|AQ rfl h (fun d2 h=>?_) (fun d2 h=>?_)
 refine Ac<|Ag rfl<|Aa<|Ak<|Ac<|Ae rfl ?_
 have z3:=AM h0_0 t0
 refine Ab (Bb (xs:=a0) Tryz.underlying121 rfl z3)<|Ab (FV.subI (i:=((a0.length:Nat):Int)) (j:=1) rfl rfl (by omega))<|Ag rfl<|Aa<|Az ?_
 obtain ⟨B5,H3,g3⟩:=bind_in2 h
 refine Bj (α:=UInt64 × Int × (List UInt64) × (List Value)) (fun ⟨g0,x0,z0,B0⟩=>[(0,v0_0),(1,v1_0),(4,(.slice (some ⟨b0,0,none⟩) ((a0.length:Nat):Int).toNat ((a0.length:Nat):Int).toNat)),(6,vU g0),(7,vI x0)]) (fun ⟨g0,x0,z0,B0⟩ V0=>St w V0 [.row w.heap.size 33 (Rep.size UInt64) (.slice (some ⟨b0,0,none⟩) ((a0.length:Nat):Int).toNat ((a0.length:Nat):Int).toNat) z0.length B0]∧Tr I1 [.row w.heap.size 33 (Rep.size UInt64) (.slice (some ⟨b0,0,none⟩) ((a0.length:Nat):Int).toNat ((a0.length:Nat):Int).toNat) K0.length ((List.replicate ((a0.length:Nat):Int).toNat [vW 0]).flatten)] V0 [.row w.heap.size 33 (Rep.size UInt64) (.slice (some ⟨b0,0,none⟩) ((a0.length:Nat):Int).toNat ((a0.length:Nat):Int).toNat) z0.length B0]∧Cells V0 (bl [.row w.heap.size 33 (Rep.size UInt64) (.slice (some ⟨b0,0,none⟩) ((a0.length:Nat):Int).toNat ((a0.length:Nat):Int).toNat) z0.length B0] ++ L) B0 z0) (fun ⟨g0,x0,z0,B0⟩=>(g0,x0,z0)) ((0:UInt64),((a0.length:Nat):Int) - 1,K0,(List.replicate ((a0.length:Nat):Int).toNat [vW 0]).flatten) H3 ⟨rfl,rfl,rfl,rfl,rfl,trivial⟩ ⟨t0,AP _ _,v1⟩ ?_
 rintro j5 ⟨g0,x0,z0,B0⟩ V0 v2 ⟨C0,B2,Z0⟩ h
 unfold wide_divided_l1 at h
 try dsimp only at h
 refine Ak<|Ac<|Ae rfl<|Ab (FV.geq (i:=x0) (j:=0) rfl rfl)<|Aa<|AQ rfl h (fun c2 h=>?_) (fun c2 h=>?_)
 refine Aq<|Ak<|Az<|AF 15 tb194_7 (by kernel_rfl) (by kernel_rfl) (by kernel_rfl) (fun c0 d0=>?_)
 refine Ah 0 1 c0 rfl d0 (fun _=>Ai rfl) rfl<|Ah 1 3 c0 rfl d0 (fun _=>Ai rfl) rfl<|Ah 2 7 c0 rfl d0 (fun _=>Ai rfl) rfl<|Ah 3 15 c0 rfl d0 (fun _=>Ai rfl) rfl<|Ah 4 31 c0 rfl d0 (fun _=>Ai rfl) rfl ?_
 obtain ⟨J1,u4,h⟩:=bi h
 obtain ⟨k3,v4⟩:=idx_in u4
 have v3:=AM h0_0 C0
 obtain ⟨d5,q5,X2,q3,k2,P3,u3⟩:=Bm v3 v4
 have Y2:k2 = [vU J1]:=P3; subst Y2
 refine Ah 5 63 c0 rfl d0 (fun _=>Bo 1 (x0.toNat) rfl X2 rfl k3 q3) rfl<|AD 6 127 130048 c0 rfl d0 (AK rfl (u3 0 _ rfl)) rfl<|Ah 7 255 c0 rfl d0 (fun _=>Ai rfl) rfl ?_
 obtain ⟨K1,x4,h⟩:=bi h
 have y3:=AM h1_0 C0
 obtain ⟨g5,s5,Z2,s3,p2,Q3,x3⟩:=Bm y3 x4
 have b3:p2 = [vU K1]:=Q3; subst b3
 refine Ah 8 511 c0 rfl d0 (fun _=>Bo 1 0 rfl Z2 rfl rfl s3) rfl<|AD 9 1023 130048 c0 rfl d0 (AK rfl (x3 0 _ rfl)) rfl ?_
 obtain ⟨k1,E4,h⟩:=bi h
 refine BI 10 2047 129024 (.tuple #[vU k1.1,vU k1.2]) c0 rfl d0 body214 rfl (e3 rfl rfl rfl) (fun w9 hw9=>math_bits_Div64_c n _ w9 (C0.hL0 hL hw9) g0 J1 K1 E4) rfl<|Ah 11 4095 c0 rfl d0 (fun _=>Ai rfl) rfl<|Ah 12 8191 c0 rfl d0 (fun _=>Af rfl rfl) rfl<|Ah 13 16383 c0 rfl d0 (fun _=>Af rfl rfl) rfl ?_
 obtain ⟨X4,y4,h⟩:=bi h
 obtain ⟨p3,z4⟩:=idx_in y4
 obtain ⟨W1,t5,c1,A1,q2,R3,A5⟩:=St.nth (α:=UInt64) C0 .hd Z0 z4
 obtain ⟨Y1,u5,x1⟩:=St.nthOwn (α:=UInt64) C0 .hd A1
 obtain rfl:W1 = ⟨Y1,0,none⟩:=by rw [x1] at c1; cases c1; rfl
 have c3:q2 = [vU X4]:=R3; subst c3
 refine Ah 14 32767 c0 rfl d0 (fun _=>Bo 1 (x0.toNat) rfl c1 rfl p3 A1) rfl ?_
 obtain ⟨Y4,C4,h⟩:=bi h
 refine Bs (i:=15) (readyD_ok c0 (by kernel_rfl)) (RO.acts (m' :=65535) (stepC_ok c0 (by kernel_rfl)) rfl rfl .plain (Acts.set (α:=UInt64) (i:=x0.toNat) C4 C0 x1 (fun _=>.hd) Z0 rfl rfl rfl rfl rfl (by kernel_rfl)) (fun J5 ⟨s2,y2,C2,R2⟩=>?_))
 refine Bs (i:=16) (readyD_ok c0 (by kernel_rfl)) (RO.val (m' :=131071) (stepC_ok c0 (by kernel_rfl)) rfl .plain rfl (AJ rfl) ?_)
 refine AE (doneD_ok c0 (by kernel_rfl))<|AC<|Ar<|Ae rfl ?_
 obtain ⟨Q4,k4,h⟩:=bi h
 refine Ab (FV.subc (i:=x0) (j:=1) rfl rfl k4)<|Ag rfl<|Aa ?_
 exact v2 (k1.2,Q4,Y4,s2) _ _ ⟨rfl,rfl,rfl,rfl,rfl,trivial⟩ ⟨y2,(Tt B2 C2),R2⟩ h
 refine Be rfl ?_
 have h:=g3 _ h
 try dsimp only at h
 refine Ac<|Ae rfl<|Ae rfl<|Aj .plain rfl (AW (α:=UInt64) (xs:=([g0]:List UInt64)) (vs:=[vU g0]) (ds' :=[vU g0]) rfl C0 el121 rfl (e1 rfl) (by kernel_rfl) rfl) (fun K5 Z1 M0 D2=>?_)
 have U2:=AG (cs:=[vU g0]) (xs:=(([g0]:List UInt64):List UInt64)) M0 L (Au (cs:=[vU g0]) (ds:=[]) rfl (AO _ _))
 have U3:=Bq (α:=UInt64) M0 .hd U2 hL
 have W0:=BD M0 .hd
 have E2:=BE M0 .hd
 have V3:=BF (α:=UInt64) (v:=(vS Z1 1)) (xs:=([g0]:List UInt64)) W0 L U3
 obtain ⟨b5,F4,h⟩:=bi h
 refine AX (fst:=[]) (cap:=[]) .plain body169 rfl (e2 rfl rfl) (fun w9 hw9=>wide_trimmed_c n _ w9 (W0.hL hL hw9) false ([g0]:List UInt64) (Am V3 hw9) F4) rfl (fun M5 F5 K2 ⟨G1,hu_,W3⟩=>?_)
 subst hu_
 obtain ⟨X0,F2⟩:=W0.agr K2
 refine Ab (FV.field1 (cs:=[.bool b5.fBelow,G1]) (off:=1) (m:=1) (by kernel_rfl) (by kernel_rfl) rfl rfl)<|Ag rfl<|Ag rfl<|Aa<|Al rfl ?_
 have J3:=Tt D2 (Tt E2 F2)
 have A3:=AN Z0 J3
 have X3:=Bq (α:=UInt64) X0 .hd A3 hL
 have P0:=BD X0 .hd
 have G2:=BE X0 .hd
 have Y3:=BF (α:=UInt64) (v:=(.slice (some ⟨b0,0,none⟩) ((a0.length:Nat):Int).toNat ((a0.length:Nat):Int).toNat)) (xs:=z0) P0 L X3
 refine Ao hb0 Tryz.func194 rfl (.cons (.tmp rfl) (.cons (.tmp rfl) .nil)) rfl ?_
 cases h
 have B3:=Ap W3 G2
 exact ⟨P0.ag,fun w9 hw9=>⟨(.slice (some ⟨b0,0,none⟩) ((a0.length:Nat):Int).toNat ((a0.length:Nat):Int).toNat),G1,rfl,P0.kd Y3 hw9,P0.kd B3 hw9⟩⟩
 refine Aq<|Ac<|Ae rfl<|Ag rfl<|Aa<|Ak<|Ac<|Ae rfl ?_
 obtain ⟨P1,G4,h⟩:=bi h
 refine Bf (vI P1) body215 rfl (e1 rfl) (fun w9 hw9=>wide_length_c n _ w9 (t0.hL0 hL hw9) a0 (t0.k0 h0_0 hw9) G4) rfl<|Ae rfl ?_
 obtain ⟨Q1,H4,h⟩:=bi h
 refine Bf (vI Q1) body215 rfl (e1 rfl) (fun w9 hw9=>wide_length_c n _ w9 (t0.hL0 hL hw9) a1 (t0.k0 h1_0 hw9) H4) rfl ?_
 obtain ⟨R4,p4,h⟩:=bi h
 refine Ab (FV.subc (i:=P1) (j:=Q1) rfl rfl p4)<|Ag rfl<|Aa<|Az ?_
 have C3:=AM h0_0 t0
 obtain ⟨C5,I3,j3⟩:=bind_in2 h
 refine Bj (α:=(List UInt64) × Int × (List UInt64) × Value × (List Value)) (fun ⟨A0,q0,p0,D0,s0⟩=>[(1,v1_0),(4,(.slice (some ⟨b0,0,none⟩) ((a0.length:Nat):Int).toNat ((a0.length:Nat):Int).toNat)),(5,D0),(8,vI q0)]) (fun ⟨A0,q0,p0,D0,s0⟩ I0=>St w I0 [.row w.heap.size 33 (Rep.size UInt64) (.slice (some ⟨b0,0,none⟩) ((a0.length:Nat):Int).toNat ((a0.length:Nat):Int).toNat) p0.length s0]∧Tr I1 [.row w.heap.size 33 (Rep.size UInt64) (.slice (some ⟨b0,0,none⟩) ((a0.length:Nat):Int).toNat ((a0.length:Nat):Int).toNat) K0.length ((List.replicate ((a0.length:Nat):Int).toNat [vW 0]).flatten)] I0 [.row w.heap.size 33 (Rep.size UInt64) (.slice (some ⟨b0,0,none⟩) ((a0.length:Nat):Int).toNat ((a0.length:Nat):Int).toNat) p0.length s0]∧Rep.R I0 (bl [.row w.heap.size 33 (Rep.size UInt64) (.slice (some ⟨b0,0,none⟩) ((a0.length:Nat):Int).toNat ((a0.length:Nat):Int).toNat) p0.length s0] ++ L) [D0] A0∧Cells I0 (bl [.row w.heap.size 33 (Rep.size UInt64) (.slice (some ⟨b0,0,none⟩) ((a0.length:Nat):Int).toNat ((a0.length:Nat):Int).toNat) p0.length s0] ++ L) s0 p0) (fun ⟨A0,q0,p0,D0,s0⟩=>(A0,q0,p0)) (a0,R4,K0,v0_0,(List.replicate ((a0.length:Nat):Int).toNat [vW 0]).flatten) I3 ⟨rfl,rfl,rfl,rfl,trivial⟩ ⟨t0,AP _ _,C3,v1⟩ ?_
 rintro k5 ⟨A0,q0,p0,D0,s0⟩ I0 x2 ⟨E0,H2,D1,b1⟩ h
 unfold wide_divided_l2 at h
 try dsimp only at h
 refine Ak<|Ac<|Ae rfl<|Ab (FV.geq (i:=q0) (j:=0) rfl rfl)<|Aa<|AQ rfl h (fun g2 h=>?_) (fun g2 h=>?_)
 refine Aq<|Ak<|Az<|Ac<|Ae rfl<|Ae rfl ?_
 obtain ⟨R1,I4,h⟩:=bi h
 refine AX (fst:=[]) (cap:=[]) .plain body216 rfl (e2 rfl rfl) (fun w9 hw9=>wide_moved_c n _ w9 (E0.hL hL hw9) a1 (E0.km h1_0 hw9) q0 I4) rfl (fun W4 G5 M2 ⟨D5,hu_,E1⟩=>?_)
 subst hu_
 obtain ⟨F0,R0⟩:=E0.agr M2
 refine Ag rfl<|Aa<|Ac<|Ae rfl<|Ae rfl ?_
 obtain ⟨U1,J4,h⟩:=bi h
 have g1:=Ap D1 R0
 refine Bf (vI U1) body172 rfl (e2 rfl rfl) (fun w9 hw9=>wide_compared_c n _ w9 (F0.hL0 hL hw9) A0 (F0.kd g1 hw9) R1 (F0.kd E1 hw9) J4) rfl<|Ab (FV.geq (i:=U1) (j:=0) rfl rfl)<|Aa<|MX.join (α:=(List UInt64) × (List UInt64) × Value × (List Value)) (fun ⟨H0,v0,G0,y0⟩=>[(1,v1_0),(4,(.slice (some ⟨b0,0,none⟩) ((a0.length:Nat):Int).toNat ((a0.length:Nat):Int).toNat)),(5,G0),(8,vI q0)]) (fun ⟨H0,v0,G0,y0⟩ J0=>St w J0 [.row w.heap.size 33 (Rep.size UInt64) (.slice (some ⟨b0,0,none⟩) ((a0.length:Nat):Int).toNat ((a0.length:Nat):Int).toNat) v0.length y0]∧Tr W4 [.row w.heap.size 33 (Rep.size UInt64) (.slice (some ⟨b0,0,none⟩) ((a0.length:Nat):Int).toNat ((a0.length:Nat):Int).toNat) p0.length s0] J0 [.row w.heap.size 33 (Rep.size UInt64) (.slice (some ⟨b0,0,none⟩) ((a0.length:Nat):Int).toNat ((a0.length:Nat):Int).toNat) v0.length y0]∧Rep.R J0 (bl [.row w.heap.size 33 (Rep.size UInt64) (.slice (some ⟨b0,0,none⟩) ((a0.length:Nat):Int).toNat ((a0.length:Nat):Int).toNat) v0.length y0] ++ L) [G0] H0∧Cells J0 (bl [.row w.heap.size 33 (Rep.size UInt64) (.slice (some ⟨b0,0,none⟩) ((a0.length:Nat):Int).toNat ((a0.length:Nat):Int).toNat) v0.length y0] ++ L) y0 v0) (fun ⟨H0,v0,G0,y0⟩=>(H0,v0)) h ?_ ?_
 rintro ⟨H0,v0,G0,y0⟩ J0 ⟨z2,I2,Z3,V2⟩ h
 try dsimp only at h
 refine AC<|Ar<|Ae rfl ?_
 obtain ⟨U4,q4,h⟩:=bi h
 refine Ab (FV.subc (i:=q0) (j:=1) rfl rfl q4)<|Ag rfl<|Aa ?_
 exact x2 (H0,U4,v0,G0,y0) _ _ ⟨rfl,rfl,rfl,rfl,trivial⟩ ⟨z2,(Tt H2 (Tt R0 I2)),Z3,V2⟩ h
 intro p5 p1 h
 try dsimp only at h
 refine AQ rfl h (fun j2 h=>?_) (fun j2 h=>?_)
 refine Ac<|Ae rfl<|Ae rfl ?_
 obtain ⟨c5,K4,h⟩:=bi h
 refine AX (fst:=[]) (cap:=[]) .plain body173 rfl (e2 rfl rfl) (fun w9 hw9=>wide_taken_c n _ w9 (F0.hL hL hw9) A0 (Am g1 hw9) R1 (Am E1 hw9) K4) rfl (fun P5 H5 P2 ⟨E5,hu_,b4⟩=>?_)
 subst hu_
 obtain ⟨q1,s1⟩:=F0.agr P2
 obtain ⟨V1,M4,h⟩:=bi h
 refine AX (fst:=[]) (cap:=[]) .plain body169 rfl (e2 rfl rfl) (fun w9 hw9=>wide_trimmed_c n _ w9 (q1.hL hL hw9) false c5 (Am b4 hw9) M4) rfl (fun Q5 I5 Q2 ⟨H1,hu_,c4⟩=>?_)
 subst hu_
 obtain ⟨Y0,t1⟩:=q1.agr Q2
 refine Ab (FV.field1 (cs:=[.bool V1.fBelow,H1]) (off:=1) (m:=1) (by kernel_rfl) (by kernel_rfl) rfl rfl)<|Ag rfl<|Aa<|AF 10 tb194_16 (by kernel_rfl) (by kernel_rfl) (by kernel_rfl) (fun j0 u0=>?_)
 refine Ah 0 1 j0 rfl u0 (fun _=>Ai rfl) rfl<|Ah 1 3 j0 rfl u0 (fun _=>Ai rfl) rfl ?_
 obtain ⟨j1,s4,h⟩:=bi h
 refine Ah 2 7 j0 rfl u0 (fun _=>FV.quoc (i:=q0) (j:=64) rfl rfl s4) rfl ?_
 obtain ⟨M1,A4,h⟩:=bi h
 obtain ⟨z1,B4⟩:=idx_in A4
 have K3:=Tt R0 (Tt s1 t1)
 have C1:=AN b1 K3
 obtain ⟨X1,v5,U0,d1,t2,d4,D3⟩:=St.nth (α:=UInt64) Y0 .hd C1 B4
 obtain ⟨b2,x5,y1⟩:=St.nthOwn (α:=UInt64) Y0 .hd d1
 obtain rfl:X1 = ⟨b2,0,none⟩:=by rw [y1] at U0; cases U0; rfl
 have d3:t2 = [vU M1]:=d4; subst d3
 refine Ah 3 15 j0 rfl u0 (fun _=>Bo 1 (j1.toNat) rfl U0 rfl z1 d1) rfl<|AD 4 31 1792 j0 rfl u0 (AK rfl (D3 0 _ rfl)) rfl<|Ah 5 63 j0 rfl u0 (fun _=>Ai rfl) rfl ?_
 obtain ⟨V4,t4,h⟩:=bi h
 refine Ah 6 127 j0 rfl u0 (fun _=>FV.remc (i:=q0) (j:=64) rfl rfl t4) rfl ?_
 obtain ⟨P4,t3,h⟩:=bi h
 refine Ah 7 255 j0 rfl u0 (fun _=>FV.shlI (a:=(1:UInt64)) (i:=V4) rfl rfl t3) rfl<|Ah 8 511 j0 rfl u0 (fun _=>FV.orU (a:=M1) (b:=shlU (1:UInt64) P4) rfl rfl) rfl<|Ah 9 1023 j0 rfl u0 (fun _=>Bo 1 (j1.toNat) rfl U0 rfl z1 d1) rfl ?_
 obtain ⟨Z4,D4,h⟩:=bi h
 refine Bs (i:=10) (readyD_ok j0 (by kernel_rfl)) (RO.acts (m' :=2047) (stepC_ok j0 (by kernel_rfl)) rfl rfl .plain (Acts.set (α:=UInt64) (i:=j1.toNat) D4 Y0 y1 (fun _=>.hd) C1 rfl rfl rfl rfl rfl (by kernel_rfl)) (fun R5 ⟨u2,A2,u1,W2⟩=>?_))
 refine AE (doneD_ok j0 (by kernel_rfl)) ?_
 have E3:=Ap c4 u1
 have M3:=Tt s1 (Tt t1 u1)
 exact p1 (V1.fWords,Z4,H1,u2) _ _ ⟨rfl,rfl,rfl,rfl,trivial⟩ ⟨A2,M3,E3,W2⟩ h
 refine Aq ?_
 have F3:=AN b1 R0
 exact p1 (A0,p0,D0,s0) _ _ ⟨rfl,rfl,rfl,rfl,trivial⟩ ⟨F0,AP _ _,g1,F3⟩ h
 refine Be rfl ?_
 have h:=j3 _ h
 try dsimp only at h
 refine Ac<|Ae rfl<|Ae rfl<|Ag rfl<|Ag rfl<|Aa<|Al rfl ?_
 have g4:=Bq (α:=UInt64) E0 .hd b1 hL
 have Q0:=BD E0 .hd
 have J2:=BE E0 .hd
 have j4:=BF (α:=UInt64) (v:=(.slice (some ⟨b0,0,none⟩) ((a0.length:Nat):Int).toNat ((a0.length:Nat):Int).toNat)) (xs:=p0) Q0 L g4
 refine Ao hb0 Tryz.func194 rfl (.cons (.tmp rfl) (.cons (.tmp rfl) .nil)) rfl ?_
 cases h
 have G3:=Ap D1 J2
 exact ⟨Q0.ag,fun w9 hw9=>⟨(.slice (some ⟨b0,0,none⟩) ((a0.length:Nat):Int).toNat ((a0.length:Nat):Int).toNat),D0,rfl,Q0.kd j4 hw9,Q0.kd G3 hw9⟩⟩
def tb167_1:List (Nat × Nat × Nat):=[(0,512,4),(1,1024,512),(0,2048,8),(4,4096,2048),(3,32,1024),(31,64,4096)]
theorem body194:bodyB Tryz.prog 194 = true:=by kernel_rfl
def wide_Long_Common_l1 (n:Nat) (d0:(List UInt64) × (List UInt64) → Option (List UInt64)):(List UInt64) × (List UInt64) → Option (List UInt64)
  | (c0,b0)=>(if 0 < b0.length then (wide_divided_p n c0 b0).bind fun g0=>d0 (b0,g0.2) else some c0)
def wide_Long_Common_p (n:Nat) (a0:TLong) (a1:TLong):Option TLong:=
  Option.bind (loopF (wide_Long_Common_l1 n) n (a0.fWords,a1.fWords)) (fun b0=>some (⟨false,b0⟩:TLong))
theorem wide_Long_Common_c (n:Nat) (L:List Nat) (w:World) (hL:∀ b ∈ L,b < w.heap.size) (a0:TLong) {v0_1:Value} (h0_1:Rep.R w L [v0_1] a0.fWords) (a1:TLong) {v1_1:Value} (h1_1:Rep.R w L [v1_1] a1.fWords)  {r:TLong} (h:wide_Long_Common_p n a0 a1 = some r) :
    Calls Tryz.prog 167 #[.agg #[.bool a0.fBelow,v0_1],.agg #[.bool a1.fBelow,v1_1]] w (Gives w fun w' u=>∃ v0_1:Value,u = .agg #[.bool r.fBelow,v0_1]∧Rep.R w' L [v0_1] r.fWords):=by
 unfold wide_Long_Common_p at h
 have hS0:=Ax w
 refine AA Tryz.func167 rfl rfl rfl (fun _ cs0 hb0=>?_)
 refine Ac<|Aj .plain rfl (Aw hS0 rfl rfl) (fun y1 c1 C0 j1=>?_)
 refine Aj .plain rfl (Aw C0 rfl rfl) (fun z1 d1 D0 k1=>?_)
 refine Aj .plain rfl (Av [.bool false,vN] D0) (fun X0 g0 u0 p1=>?_)
 refine Aa<|Ak<|AF 6 tb167_1 (by kernel_rfl) (by kernel_rfl) (by kernel_rfl) (fun d0 j0=>?_)
 refine Ah 0 1 d0 rfl j0 (fun _=>Bh 1 rfl) rfl<|AD 1 3 48 d0 rfl j0 (AK rfl ((u0.memA (.tl (.tl .hd))) 1 _ rfl)) rfl<|Ah 2 7 d0 rfl j0 (fun _=>Bh 1 rfl) rfl<|AD 3 15 32 d0 rfl j0 (AK rfl ((u0.memA (.tl .hd)) 1 _ rfl)) rfl<|Ah 4 31 d0 rfl j0 (fun _=>AJ rfl) rfl<|Ah 5 63 d0 rfl j0 (fun _=>AJ rfl) rfl<|AE (doneD_ok d0 (by kernel_rfl))<|Ak<|Az ?_
 obtain ⟨v0,q1⟩:=AH u0 (.one .hd .done)
 have J0:=AM h0_1 v0
 have K0:=AM h1_1 v0
 obtain ⟨u1,Q0,I0⟩:=bind_in2 h
 refine Bj (α:=(List UInt64) × (List UInt64) × Value × Value) (fun ⟨p0,c0,b0,k0⟩=>[(4,vP g0),(5,b0),(6,k0)]) (fun ⟨p0,c0,b0,k0⟩ q0=>St w q0 [.cells g0 [.bool false,vN] 123]∧Tr X0 [.cells g0 [.bool false,vN] 123] q0 [.cells g0 [.bool false,vN] 123]∧Rep.R q0 (bl [.cells g0 [.bool false,vN] 123] ++ L) [b0] p0∧Rep.R q0 (bl [.cells g0 [.bool false,vN] 123] ++ L) [k0] c0) (fun ⟨p0,c0,b0,k0⟩=>(p0,c0)) (a0.fWords,a1.fWords,v0_1,v1_1) Q0 ⟨rfl,rfl,rfl,trivial⟩ ⟨v0,AP _ _,J0,K0⟩ ?_
 rintro b1 ⟨p0,c0,b0,k0⟩ q0 B0 ⟨x0,F0,s0,t0⟩ h
 unfold wide_Long_Common_l1 at h
 try dsimp only at h
 refine Ak<|Ac<|Ae rfl ?_
 have s1:c0.length ≤ 281474976710656:=AT t0
 refine Ab (Bb (xs:=c0) Tryz.underlying121 rfl t0)<|Ab (FV.gtrN (i:=c0.length) (j:=0) rfl rfl)<|Aa<|AQ rfl h (fun A0 h=>?_) (fun A0 h=>?_)
 refine Aq<|Az<|Ac<|Ae rfl<|Ae rfl ?_
 obtain ⟨Y0,V0,h⟩:=bi h
 refine AX (fst:=[]) (cap:=[]) .plain body194 rfl (e2 rfl rfl) (fun w9 hw9=>wide_divided_c n _ w9 (x0.hL hL hw9) p0 (Am s0 hw9) c0 (Am t0 hw9) V0) rfl (fun A1 x1 H0 ⟨v1,W0,hu_,t1,R0⟩=>?_)
 subst hu_
 obtain ⟨E0,z0⟩:=x0.agr H0
 refine Ae rfl<|Ab (Af rfl rfl)<|Ab (Af rfl rfl)<|Ag rfl<|Ag rfl<|Aa<|Ar<|Ae rfl<|Ae rfl<|Ag rfl<|Ag rfl<|Aa<|AC ?_
 have M0:=Ap t0 z0
 exact B0 (c0,Y0.2,k0,W0) _ _ ⟨rfl,rfl,rfl,trivial⟩ ⟨E0,(Tt F0 z0),M0,R0⟩ h
 refine Be rfl ?_
 have h:=I0 _ h
 try dsimp only at h
 refine Ac<|Ae rfl ?_
 obtain ⟨Z0,g1,U0,_⟩:=Rep.sl s0
 refine Ab (AS (vs:=[b0]) (u:=.agg #[.bool false,b0]) (e1 rfl) (fun w9=>by rw [U0]; try kernel_rfl))<|AL [.bool false,b0] x0 .hd (o2 rfl (AI s0)) (fun B1 y0 G0=>?_)
 refine Aa<|Al rfl<|Ao hb0 Tryz.func167 rfl (.cons (.many (cs:=[.bool false,b0]) (by kernel_rfl) rfl (y0.memA .hd)) .nil) rfl ?_
 cases h
 have P0:=Ap s0 G0
 exact ⟨y0.ag,fun w9 hw9=>⟨b0,rfl,y0.kd P0 hw9⟩⟩
def wide_added_l1 (_n:Nat) (xs4:List UInt64) (xs7:List UInt64) (k0:UInt64 × Nat × (List UInt64) → Option ((List UInt64) × UInt64)):UInt64 × Nat × (List UInt64) → Option ((List UInt64) × UInt64)
  | (g0,b0,c0)=>(if b0 < xs4.length then (xs4[b0]?).bind fun q0=>jn (fun p0=>(add64 q0 p0 g0).bind fun j0=>(c0[b0]?).bind fun u0=>(put c0 ((b0:Nat):Int) j0.1).bind fun t0=>k0 (j0.2,b0 + 1,t0)) (fun d0=>(if b0 < xs7.length then (xs7[b0]?).bind fun s0=>d0 s0 else d0 (0:UInt64))) else some (c0,g0))
def wide_added_p (n:Nat) (a0:List UInt64) (a1:List UInt64):Option (List UInt64):=
  jn (fun (xs4,xs7)=>(mk ((xs4.length + 1:Nat):Int) (0:UInt64)).bind fun g0=>Option.bind (loopF (wide_added_l1 n xs4 xs7) n ((0:UInt64),0,g0)) (fun (c0,d0)=>(c0[xs4.length]?).bind fun k0=>(put c0 ((xs4.length:Nat):Int) d0).bind fun j0=>some j0)) (fun b0=>(if a0.length < a1.length then b0 (a1,a0) else b0 (a0,a1)))
theorem wide_added_c (n:Nat) (L:List Nat) (w:World) (hL:∀ b ∈ L,b < w.heap.size) (a0:List UInt64) {v0_0:Value} (h0_0:Rep.R w L [v0_0] a0) (a1:List UInt64) {v1_0:Value} (h1_0:Rep.R w L [v1_0] a1)  {r:List UInt64} (h:wide_added_p n a0 a1 = some r) :
    Calls Tryz.prog 171 #[v0_0,v1_0] w (Gives w fun w' u=>∃ v0_0:Value,u = v0_0∧Rep.R w' L [v0_0] r):=by
 unfold wide_added_p at h
 have hS0:=Ax w
 refine AA Tryz.func171 rfl rfl rfl (fun _ cs0 hb0=>?_)
 refine Ac<|Ag rfl<|Aa<|Ak<|Ac<|Ae rfl ?_
 have hl1:a0.length ≤ 281474976710656:=AT h0_0
 refine Ab (Bb (xs:=a0) Tryz.underlying121 rfl h0_0)<|Ae rfl ?_
 have hl2:a1.length ≤ 281474976710656:=AT h1_0
 refine Ab (Bb (xs:=a1) Tryz.underlying121 rfl h1_0)<|Ab (Bn (i:=a0.length) (j:=a1.length) rfl rfl)<|Aa<|MX.join (α:=(List UInt64) × (List UInt64) × Value × Value) (fun ⟨xs4,xs7,v5,v8⟩=>[(0,v5),(1,v8)]) (fun ⟨xs4,xs7,v5,v8⟩ wx9=>St w wx9 []∧Tr w [] wx9 []∧Rep.R wx9 (bl [] ++ L) [v5] xs4∧Rep.R wx9 (bl [] ++ L) [v8] xs7) (fun ⟨xs4,xs7,v5,v8⟩=>(xs4,xs7)) h ?_ ?_
 rintro ⟨xs4,xs7,v5,v8⟩ wx9 ⟨s1,K2,hr6,hr9⟩ h
 try dsimp only at h
 refine Ac<|Ae rfl ?_
 have Q2:xs4.length ≤ 281474976710656:=AT hr6
 refine Ab (Bb (xs:=xs4) Tryz.underlying121 rfl hr6)<|Ab (Br (i:=xs4.length) (j:=1) rfl rfl (by omega)) ?_
 obtain ⟨E0,R0,h⟩:=bi h
 refine Aj .plain rfl (Does.mk (α:=UInt64) R0 s1 el121 rfl) (fun q2 c0 H0 t0=>?_)
 have y1:=AG (cs:=(List.replicate ((xs4.length + 1:Nat):Int).toNat [vW 0]).flatten) (xs:=E0) H0 L (Cells.mk R0 rfl)
 refine Ag rfl<|Aa<|Ac<|Ag rfl<|Aa<|Ak<|Ac<|Ae rfl ?_
 have Q1:=Ap hr6 t0
 refine Ab (Bb (xs:=xs4) Tryz.underlying121 rfl Q1)<|Ae rfl<|Aa<|Az ?_
 obtain ⟨W2,R1,G1⟩:=bind_in2 h
 refine Bj (α:=UInt64 × Nat × (List UInt64) × (List Value)) (fun ⟨j0,b0,d0,g0⟩=>[(0,v5),(1,v8),(5,(.slice (some ⟨c0,0,none⟩) ((xs4.length + 1:Nat):Int).toNat ((xs4.length + 1:Nat):Int).toNat)),(6,vU j0),(21,v5),(22,vI ((xs4.length:Nat):Int)),(23,vI ((b0:Nat):Int))]) (fun ⟨j0,b0,d0,g0⟩ q0=>St w q0 [.row w.heap.size 33 (Rep.size UInt64) (.slice (some ⟨c0,0,none⟩) ((xs4.length + 1:Nat):Int).toNat ((xs4.length + 1:Nat):Int).toNat) d0.length g0]∧Tr q2 [.row w.heap.size 33 (Rep.size UInt64) (.slice (some ⟨c0,0,none⟩) ((xs4.length + 1:Nat):Int).toNat ((xs4.length + 1:Nat):Int).toNat) E0.length ((List.replicate ((xs4.length + 1:Nat):Int).toNat [vW 0]).flatten)] q0 [.row w.heap.size 33 (Rep.size UInt64) (.slice (some ⟨c0,0,none⟩) ((xs4.length + 1:Nat):Int).toNat ((xs4.length + 1:Nat):Int).toNat) d0.length g0]∧Cells q0 (bl [.row w.heap.size 33 (Rep.size UInt64) (.slice (some ⟨c0,0,none⟩) ((xs4.length + 1:Nat):Int).toNat ((xs4.length + 1:Nat):Int).toNat) d0.length g0] ++ L) g0 d0) (fun ⟨j0,b0,d0,g0⟩=>(j0,b0,d0)) ((0:UInt64),0,E0,(List.replicate ((xs4.length + 1:Nat):Int).toNat [vW 0]).flatten) R1 ⟨rfl,rfl,rfl,rfl,rfl,rfl,rfl,trivial⟩ ⟨H0,AP _ _,y1⟩ ?_
 rintro B2 ⟨j0,b0,d0,g0⟩ q0 q1 ⟨p0,s0,y0⟩ h
 unfold wide_added_l1 at h
 try dsimp only at h
 refine Ac<|Ab (Bn (i:=b0) (j:=xs4.length) rfl rfl)<|Aa<|Ak<|AQ rfl h (fun Z0 h=>?_) (fun Z0 h=>?_)
 refine Aq<|Ak<|Az<|Ac<|Ae rfl ?_
 obtain ⟨D0,b2,h⟩:=bi h
 have K1:=Ap hr6 (Tt t0 s0)
 obtain ⟨y2,D2,A1,H1,d1,U1,J1⟩:=Bm K1 b2
 have B1:d1 = [vU D0]:=U1; subst B1
 refine Ab (Bo 1 b0 rfl A1 rfl rfl H1)<|Bd rfl (J1 0 _ rfl)<|Ag rfl<|Ag rfl<|Aa<|Ac<|Ag rfl<|Aa<|Ak<|Ac<|Ae rfl<|Ae rfl ?_
 have B0:=Ap hr9 (Tt t0 s0)
 have R2:xs7.length ≤ 281474976710656:=AT B0
 refine Ab (Bb (xs:=xs7) Tryz.underlying121 rfl B0)<|Ab (Bn (i:=b0) (j:=xs7.length) rfl rfl)<|Aa<|MX.join (α:=UInt64) (fun k0=>[(0,v5),(1,v8),(5,(.slice (some ⟨c0,0,none⟩) ((xs4.length + 1:Nat):Int).toNat ((xs4.length + 1:Nat):Int).toNat)),(6,vU j0),(21,v5),(22,vI ((xs4.length:Nat):Int)),(23,vI ((b0:Nat):Int)),(7,vI ((b0:Nat):Int)),(8,vU D0),(9,vU k0)]) (fun k0 C0=>St w C0 [.row w.heap.size 33 (Rep.size UInt64) (.slice (some ⟨c0,0,none⟩) ((xs4.length + 1:Nat):Int).toNat ((xs4.length + 1:Nat):Int).toNat) d0.length g0]∧Tr q0 [.row w.heap.size 33 (Rep.size UInt64) (.slice (some ⟨c0,0,none⟩) ((xs4.length + 1:Nat):Int).toNat ((xs4.length + 1:Nat):Int).toNat) d0.length g0] C0 [.row w.heap.size 33 (Rep.size UInt64) (.slice (some ⟨c0,0,none⟩) ((xs4.length + 1:Nat):Int).toNat ((xs4.length + 1:Nat):Int).toNat) d0.length g0]) (fun k0=>k0) h ?_ ?_
 rintro k0 C0 ⟨u0,I0⟩ h
 try dsimp only at h
 refine Ar<|Ae rfl<|Ae rfl<|Ae rfl<|Ae rfl<|Ae rfl ?_
 obtain ⟨x2,p2,h⟩:=bi h
 refine Ab (FV.add64 (a:=D0) (b:=k0) (c:=j0) Tryz.func196 rfl (by kernel_rfl) (by kernel_rfl) (by kernel_rfl) rfl rfl rfl p2)<|Ae rfl<|Ab (Af rfl rfl)<|Ab (Af rfl rfl) ?_
 obtain ⟨s2,c2,h⟩:=bi h
 have Q0:=AN y0 I0
 obtain ⟨V0,E2,z0,M0,g1,V1,U2⟩:=St.nth (α:=UInt64) u0 .hd Q0 c2
 obtain ⟨X0,F2,J0⟩:=St.nthOwn (α:=UInt64) u0 .hd M0
 obtain rfl:V0 = ⟨X0,0,none⟩:=by rw [J0] at z0; cases z0; rfl
 have C1:g1 = [vU s2]:=V1; subst C1
 refine Ab (Bo 1 b0 rfl z0 rfl rfl M0) ?_
 obtain ⟨u2,j2,h⟩:=bi h
 refine RG.acts' .plain (Acts.set (α:=UInt64) (i:=b0) j2 u0 J0 (fun _=>.hd) Q0 rfl rfl rfl rfl rfl (by kernel_rfl)) (fun X2 ⟨j1,u1,v1,x1⟩=>?_)
 refine Ag rfl<|Aa<|AC<|Ar<|Ab (Br (i:=b0) (j:=1) rfl rfl (by omega))<|Ae rfl<|Aa ?_
 exact q1 (x2.2,b0 + 1,u2,j1) _ _ ⟨rfl,rfl,rfl,rfl,rfl,rfl,rfl,trivial⟩ ⟨u1,(Tt s0 (Tt I0 v1)),x1⟩ h
 intro C2 G0 h
 try dsimp only at h
 refine AQ rfl h (fun b1 h=>?_) (fun b1 h=>?_)
 refine Ar<|Ae rfl<|Ae rfl ?_
 obtain ⟨U0,d2,h⟩:=bi h
 obtain ⟨z2,G2,D1,I1,k1,W1,M1⟩:=Bm B0 d2
 have E1:k1 = [vU U0]:=W1; subst E1
 refine Ab (Bo 1 b0 rfl D1 rfl rfl I1)<|Bd rfl (M1 0 _ rfl)<|Ag rfl<|Aa ?_
 exact G0 U0 _ _ ⟨rfl,rfl,rfl,rfl,rfl,rfl,rfl,rfl,rfl,rfl,trivial⟩ ⟨p0,AP _ _⟩ h
 refine Aq ?_
 exact G0 (0:UInt64) _ _ ⟨rfl,rfl,rfl,rfl,rfl,rfl,rfl,rfl,rfl,rfl,trivial⟩ ⟨p0,AP _ _⟩ h
 refine Be rfl ?_
 have h:=G1 _ h
 try dsimp only at h
 refine Ac<|Ae rfl<|Ae rfl ?_
 have P1:=Ap hr6 (Tt t0 s0)
 refine Ab (Bb (xs:=xs4) Tryz.underlying121 rfl P1)<|Ae rfl ?_
 obtain ⟨t2,g2,h⟩:=bi h
 obtain ⟨W0,H2,A0,P0,p1,X1,V2⟩:=St.nth (α:=UInt64) p0 .hd y0 g2
 obtain ⟨Y0,I2,K0⟩:=St.nthOwn (α:=UInt64) p0 .hd P0
 obtain rfl:W0 = ⟨Y0,0,none⟩:=by rw [K0] at A0; cases A0; rfl
 have F1:p1 = [vU t2]:=X1; subst F1
 refine Ab (Bo 1 (xs4.length) rfl A0 rfl rfl P0) ?_
 obtain ⟨v2,k2,h⟩:=bi h
 refine RG.acts' .plain (Acts.set (α:=UInt64) (i:=xs4.length) k2 p0 K0 (fun _=>.hd) y0 rfl rfl rfl rfl rfl (by kernel_rfl)) (fun Y2 ⟨J2,v0,M2,z1⟩=>?_)
 refine Aa<|Ac<|Ae rfl<|Ag rfl<|Aa<|Al rfl ?_
 have Y1:=Bq (α:=UInt64) v0 .hd z1 hL
 have x0:=BD v0 .hd
 have P2:=BE v0 .hd
 have Z1:=BF (α:=UInt64) (v:=(.slice (some ⟨c0,0,none⟩) ((xs4.length + 1:Nat):Int).toNat ((xs4.length + 1:Nat):Int).toNat)) (xs:=v2) x0 L Y1
 refine Bc hb0 Tryz.func171 rfl rfl ?_
 cases h
 exact ⟨x0.ag,fun w9 hw9=>⟨(.slice (some ⟨c0,0,none⟩) ((xs4.length + 1:Nat):Int).toNat ((xs4.length + 1:Nat):Int).toNat),rfl,x0.kd Z1 hw9⟩⟩
 intro A2 F0 h
 try dsimp only at h
 refine AQ rfl h (fun c1 h=>?_) (fun c1 h=>?_)
 refine Ar<|Ae rfl<|Ae rfl<|Ag rfl<|Ag rfl<|Aa ?_
 exact F0 (a1,a0,v1_0,v0_0) _ _ ⟨rfl,rfl,trivial⟩ ⟨hS0,AP _ _,h1_0,h0_0⟩ h
 refine Aq ?_
 exact F0 (a0,a1,v0_0,v1_0) _ _ ⟨rfl,rfl,trivial⟩ ⟨hS0,AP _ _,h0_0,h1_0⟩ h
def tb133_2:List (Nat × Nat × Nat):=[(0,1024,4),(1,2048,1024),(0,4096,4),(4,8192,4096),(0,16384,8),(16,32768,16384),(40,65536,40960),(66,131072,67584),(255,0,131088)]
def tb133_5:List (Nat × Nat × Nat):=[(0,67108864,4),(1,134217728,67108864),(0,268435456,4),(4,536870912,268435456),(0,1073741824,8),(16,2147483648,1073741824),(40,4294967296,2684354560),(66,8589934592,4429185024),(255,0,8589934608)]
theorem body171:bodyB Tryz.prog 171 = true:=by kernel_rfl
def wide_Long_Plus_p (n:Nat) (a0:TLong) (a1:TLong):Option TLong:=
  (if (a0.fBelow == a1.fBelow) = true then (wide_added_p n a0.fWords a1.fWords).bind fun j0=>(wide_trimmed_p n a0.fBelow j0).bind fun k0=>some k0 else (wide_compared_p n a0.fWords a1.fWords).bind fun p0=>jn (fun (t0,d0,c0,g0)=>(wide_taken_p n g0 d0).bind fun q0=>(wide_trimmed_p n c0 q0).bind fun s0=>some s0) (fun b0=>(if p0 < 0 then b0 (a0.fBelow,a0.fWords,a1.fBelow,a1.fWords) else b0 (a1.fBelow,a1.fWords,a0.fBelow,a0.fWords))))
theorem wide_Long_Plus_c (n:Nat) (L:List Nat) (w:World) (hL:∀ b ∈ L,b < w.heap.size) (a0:TLong) {v0_1:Value} (h0_1:Rep.R w L [v0_1] a0.fWords) (a1:TLong) {v1_1:Value} (h1_1:Rep.R w L [v1_1] a1.fWords)  {r:TLong} (h:wide_Long_Plus_p n a0 a1 = some r) :
    Calls Tryz.prog 133 #[.agg #[.bool a0.fBelow,v0_1],.agg #[.bool a1.fBelow,v1_1]] w (Gives w fun w' u=>∃ v0_1:Value,u = .agg #[.bool r.fBelow,v0_1]∧Rep.R w' L [v0_1] r.fWords):=by
 unfold wide_Long_Plus_p at h
 have hS0:=Ax w
 refine AA Tryz.func133 rfl rfl rfl (fun _ cs0 hb0=>?_)
 refine Ac<|Aj .plain rfl (Aw hS0 rfl rfl) (fun s2 s0 X0 U1=>?_)
 refine Aj .plain rfl (Aw X0 rfl rfl) (fun t2 t0 Y0 V1=>?_)
 refine Aj .plain rfl (Av [.bool false,vN] Y0) (fun M1 u0 b0 W1=>?_)
 refine Aa<|Ak<|Ac<|Bg 0 rfl<|Bd rfl ((b0.memA (.tl (.tl .hd))) 0 _ rfl)<|Bg 0 rfl<|Bd rfl ((b0.memA (.tl .hd)) 0 _ rfl)<|Ab (FV.eqlB (a:=a0.fBelow) (b:=a1.fBelow) Tryz.underlying4 rfl rfl)<|Aa<|MX.ifb rfl h (fun V0 h=>?_) (fun V0 h=>?_)
 refine Ak<|AF 8 tb133_2 (by kernel_rfl) (by kernel_rfl) (by kernel_rfl) (fun c0 v0=>?_)
 refine Ah 0 1 c0 rfl v0 (fun _=>Bh 0 rfl) rfl<|AD 1 3 384 c0 rfl v0 (AK rfl ((b0.memA (.tl (.tl .hd))) 0 _ rfl)) rfl<|Ah 2 7 c0 rfl v0 (fun _=>Bh 1 rfl) rfl<|AD 3 15 448 c0 rfl v0 (AK rfl ((b0.memA (.tl (.tl .hd))) 1 _ rfl)) rfl<|Ah 4 31 c0 rfl v0 (fun _=>Bh 1 rfl) rfl<|AD 5 63 448 c0 rfl v0 (AK rfl ((b0.memA (.tl .hd)) 1 _ rfl)) rfl ?_
 obtain ⟨P1,G1,h⟩:=bi h
 refine Bi 6 127 c0 rfl .plain body171 rfl (e2 rfl rfl) (fun w9 hw9=>wide_added_c n _ w9 (b0.hL hL hw9) a0.fWords (b0.km h0_1 hw9) a1.fWords (b0.km h1_1 hw9) G1) rfl (fun u2 j2 k1 ⟨d2,hu_,C1⟩=>?_)
 subst hu_
 obtain ⟨I0,X1⟩:=b0.agr k1
 obtain ⟨Q0,H1,h⟩:=bi h
 refine Bi 7 255 c0 rfl .plain body169 rfl (e2 rfl rfl) (fun w9 hw9=>wide_trimmed_c n _ w9 (I0.hL hL hw9) a0.fBelow P1 (Am C1 hw9) H1) rfl (fun v2 k2 p1 ⟨F0,hu_,M0⟩=>?_)
 subst hu_
 obtain ⟨Z0,Y1⟩:=I0.agr p1
 refine Bt 8 511 c0 rfl rfl .plain (Ay (news:=[.bool Q0.fBelow,F0]) Z0 .hd rfl rfl rfl rfl rfl rfl (o2 rfl (AI M0))) (fun x2 D0 d1=>?_)
 refine AE (doneD_ok c0 (by kernel_rfl))<|Al rfl<|Ao hb0 Tryz.func133 rfl (.cons (.many (cs:=[.bool Q0.fBelow,F0]) (by kernel_rfl) rfl (D0.memA .hd)) .nil) rfl ?_
 cases h
 have y1:=Ap M0 d1
 exact ⟨D0.ag,fun w9 hw9=>⟨F0,rfl,D0.kd y1 hw9⟩⟩
 refine Aq<|Ak<|Ac<|Bg 1 rfl<|Bd rfl ((b0.memA (.tl (.tl .hd))) 1 _ rfl)<|Bg 1 rfl<|Bd rfl ((b0.memA (.tl .hd)) 1 _ rfl) ?_
 obtain ⟨R0,I1,h⟩:=bi h
 refine Bf (vI R0) body172 rfl (e2 rfl rfl) (fun w9 hw9=>wide_compared_c n _ w9 (b0.hL0 hL hw9) a0.fWords (b0.k0 h0_1 hw9) a1.fWords (b0.k0 h1_1 hw9) I1) rfl<|Ab (FV.lss (i:=R0) (j:=0) rfl rfl)<|Aa<|MX.join (α:=Bool × (List UInt64) × Bool × (List UInt64) × Value × Value) (fun ⟨j0,y0,g0,z0,p0,q0⟩=>[(2,vP s0),(3,vP t0),(4,vP u0)]) (fun ⟨j0,y0,g0,z0,p0,q0⟩ B0=>St w B0 [.cells u0 [.bool false,vN] 123,.cells t0 [.bool j0,p0] 123,.cells s0 [.bool g0,q0] 123]∧Tr M1 [.cells u0 [.bool false,vN] 123,.cells t0 [.bool a1.fBelow,v1_1] 123,.cells s0 [.bool a0.fBelow,v0_1] 123] B0 [.cells u0 [.bool false,vN] 123,.cells t0 [.bool j0,p0] 123,.cells s0 [.bool g0,q0] 123]∧Rep.R B0 (bl [.cells u0 [.bool false,vN] 123,.cells t0 [.bool j0,p0] 123,.cells s0 [.bool g0,q0] 123] ++ L) [p0] y0∧Rep.R B0 (bl [.cells u0 [.bool false,vN] 123,.cells t0 [.bool j0,p0] 123,.cells s0 [.bool g0,q0] 123] ++ L) [q0] z0) (fun ⟨j0,y0,g0,z0,p0,q0⟩=>(j0,y0,g0,z0)) h ?_ ?_
 rintro ⟨j0,y0,g0,z0,p0,q0⟩ B0 ⟨A0,Z1,D1,E1⟩ h
 try dsimp only at h
 refine Ak<|AF 8 tb133_5 (by kernel_rfl) (by kernel_rfl) (by kernel_rfl) (fun d0 x0=>?_)
 refine Ah 0 1 d0 rfl x0 (fun _=>Bh 0 rfl) rfl<|AD 1 3 384 d0 rfl x0 (AK rfl ((A0.memA (.tl (.tl .hd))) 0 _ rfl)) rfl<|Ah 2 7 d0 rfl x0 (fun _=>Bh 1 rfl) rfl<|AD 3 15 448 d0 rfl x0 (AK rfl ((A0.memA (.tl (.tl .hd))) 1 _ rfl)) rfl<|Ah 4 31 d0 rfl x0 (fun _=>Bh 1 rfl) rfl<|AD 5 63 448 d0 rfl x0 (AK rfl ((A0.memA (.tl .hd)) 1 _ rfl)) rfl ?_
 obtain ⟨Q1,J1,h⟩:=bi h
 refine Bi 6 127 d0 rfl .plain body173 rfl (e2 rfl rfl) (fun w9 hw9=>wide_taken_c n _ w9 (A0.hL hL hw9) z0 (Am E1 hw9) y0 (Am D1 hw9) J1) rfl (fun y2 p2 q1 ⟨g2,hu_,F1⟩=>?_)
 subst hu_
 obtain ⟨J0,b2⟩:=A0.agr q1
 obtain ⟨U0,K1,h⟩:=bi h
 refine Bi 7 255 d0 rfl .plain body169 rfl (e2 rfl rfl) (fun w9 hw9=>wide_trimmed_c n _ w9 (J0.hL hL hw9) g0 Q1 (Am F1 hw9) K1) rfl (fun z2 q2 s1 ⟨G0,hu_,P0⟩=>?_)
 subst hu_
 obtain ⟨b1,c2⟩:=J0.agr s1
 refine Bt 8 511 d0 rfl rfl .plain (Ay (news:=[.bool U0.fBelow,G0]) b1 .hd rfl rfl rfl rfl rfl rfl (o2 rfl (AI P0))) (fun A2 E0 g1=>?_)
 refine AE (doneD_ok d0 (by kernel_rfl))<|Al rfl<|Ao hb0 Tryz.func133 rfl (.cons (.many (cs:=[.bool U0.fBelow,G0]) (by kernel_rfl) rfl (E0.memA .hd)) .nil) rfl ?_
 cases h
 have z1:=Ap P0 g1
 exact ⟨E0.ag,fun w9 hw9=>⟨G0,rfl,E0.kd z1 hw9⟩⟩
 intro R1 H0 h
 try dsimp only at h
 refine AQ rfl h (fun W0 h=>?_) (fun W0 h=>?_)
 refine Ar<|Ab (AB rfl (b0.memA (.tl .hd)))<|Ab (AB rfl (b0.memA (.tl (.tl .hd)))) ?_
 have A1:=AM h1_1 b0
 refine AL [.bool a1.fBelow,v1_1] b0 (.tl (.tl .hd)) (o2 rfl (AI A1)) (fun B2 K0 j1=>?_)
 have B1:=AM h0_1 K0
 refine AL [.bool a0.fBelow,v0_1] K0 (.tl .hd) (o2 rfl (AI B1)) (fun C2 C0 c1=>?_)
 refine Aa ?_
 have t1:=AM h0_1 C0
 have u1:=AM h1_1 C0
 exact H0 (a0.fBelow,a0.fWords,a1.fBelow,a1.fWords,v0_1,v1_1) _ _ ⟨rfl,rfl,rfl,trivial⟩ ⟨C0,(Tt j1 c1),t1,u1⟩ h
 refine Aq ?_
 have v1:=AM h1_1 b0
 have x1:=AM h0_1 b0
 exact H0 (a1.fBelow,a1.fWords,a0.fBelow,a0.fWords,v1_1,v0_1) _ _ ⟨rfl,rfl,rfl,trivial⟩ ⟨b0,AP _ _,v1,x1⟩ h
def wide_Long_Turned_p (n:Nat) (a0:TLong):Option TLong:=
  (wide_trimmed_p n (!a0.fBelow) a0.fWords).bind fun b0=>some b0
theorem wide_Long_Turned_c (n:Nat) (L:List Nat) (w:World) (hL:∀ b ∈ L,b < w.heap.size) (a0:TLong) {v0_1:Value} (h0_1:Rep.R w L [v0_1] a0.fWords)  {r:TLong} (h:wide_Long_Turned_p n a0 = some r) :
    Calls Tryz.prog 137 #[.agg #[.bool a0.fBelow,v0_1]] w (Gives w fun w' u=>∃ v0_1:Value,u = .agg #[.bool r.fBelow,v0_1]∧Rep.R w' L [v0_1] r.fWords):=by
 unfold wide_Long_Turned_p at h
 have hS0:=Ax w
 refine AA Tryz.func137 rfl rfl rfl (fun _ cs0 hb0=>?_)
 refine Ac<|Aj .plain rfl (Aw hS0 rfl rfl) (fun C0 v0 k0 y0=>?_)
 refine Aj .plain rfl (Av [.bool false,vN] k0) (fun D0 x0 b0 z0=>?_)
 refine Aa<|Ac<|Bg 0 rfl<|Bd rfl ((b0.memA (.tl .hd)) 0 _ rfl)<|Ab (Bz rfl)<|Bg 1 rfl<|Bd rfl ((b0.memA (.tl .hd)) 1 _ rfl) ?_
 obtain ⟨j0,u0,h⟩:=bi h
 refine AX (fst:=[]) (cap:=[]) .plain body169 rfl (e2 rfl rfl) (fun w9 hw9=>wide_trimmed_c n _ w9 (b0.hL hL hw9) (!a0.fBelow) a0.fWords (b0.km h0_1 hw9) u0) rfl (fun E0 B0 s0 ⟨d0,hu_,g0⟩=>?_)
 subst hu_
 obtain ⟨p0,A0⟩:=b0.agr s0
 refine AL [.bool j0.fBelow,d0] p0 .hd (o2 rfl (AI g0)) (fun F0 c0 q0=>?_)
 refine Aa<|Al rfl<|Ao hb0 Tryz.func137 rfl (.cons (.many (cs:=[.bool j0.fBelow,d0]) (by kernel_rfl) rfl (c0.memA .hd)) .nil) rfl ?_
 cases h
 have t0:=Ap g0 q0
 exact ⟨c0.ag,fun w9 hw9=>⟨d0,rfl,c0.kd t0 hw9⟩⟩
def tb200_1:List (Nat × Nat × Nat):=[(0,32,4),(0,64,8),(2,128,64),(5,256,160),(15,0,272)]
theorem body133:bodyB Tryz.prog 133 = true:=by kernel_rfl
theorem body137:bodyB Tryz.prog 137 = true:=by kernel_rfl
def wide_Long_Minus_p (n:Nat) (a0:TLong) (a1:TLong):Option TLong:=
  (wide_Long_Turned_p n a1).bind fun b0=>(wide_Long_Plus_p n a0 b0).bind fun c0=>some c0
theorem wide_Long_Minus_c (n:Nat) (L:List Nat) (w:World) (hL:∀ b ∈ L,b < w.heap.size) (a0:TLong) {v0_1:Value} (h0_1:Rep.R w L [v0_1] a0.fWords) (a1:TLong) {v1_1:Value} (h1_1:Rep.R w L [v1_1] a1.fWords)  {r:TLong} (h:wide_Long_Minus_p n a0 a1 = some r) :
    Calls Tryz.prog 200 #[.agg #[.bool a0.fBelow,v0_1],.agg #[.bool a1.fBelow,v1_1]] w (Gives w fun w' u=>∃ v0_1:Value,u = .agg #[.bool r.fBelow,v0_1]∧Rep.R w' L [v0_1] r.fWords):=by
 unfold wide_Long_Minus_p at h
 have hS0:=Ax w
 refine AA Tryz.func200 rfl rfl rfl (fun _ cs0 hb0=>?_)
 refine Ac<|Aj .plain rfl (Aw hS0 rfl rfl) (fun U0 E0 s0 H0=>?_)
 refine Aj .plain rfl (Aw s0 rfl rfl) (fun V0 F0 t0 I0=>?_)
 refine Aj .plain rfl (Av [.bool false,vN] t0) (fun W0 G0 c0 J0=>?_)
 refine Aa<|Ak<|AF 4 tb200_1 (by kernel_rfl) (by kernel_rfl) (by kernel_rfl) (fun b0 p0=>?_)
 refine AD 0 1 24 b0 rfl p0 (AB rfl (c0.memA (.tl (.tl .hd)))) rfl<|AD 1 3 28 b0 rfl p0 (AB rfl (c0.memA (.tl .hd))) rfl ?_
 obtain ⟨D0,B0,h⟩:=bi h
 refine Bi 2 7 b0 rfl .plain body137 rfl (e1 rfl) (fun w9 hw9=>wide_Long_Turned_c n _ w9 (c0.hL hL hw9) a1 (c0.km h1_1 hw9) B0) rfl (fun X0 Q0 x0 ⟨P0,hu_,A0⟩=>?_)
 subst hu_
 obtain ⟨d0,K0⟩:=c0.agr x0
 obtain ⟨q0,C0,h⟩:=bi h
 refine Bi 3 15 b0 rfl .plain body133 rfl (e2 rfl rfl) (fun w9 hw9=>wide_Long_Plus_c n _ w9 (d0.hL hL hw9) a0 (d0.km h0_1 hw9) D0 (Am A0 hw9) C0) rfl (fun Y0 R0 y0 ⟨j0,hu_,k0⟩=>?_)
 subst hu_
 obtain ⟨u0,M0⟩:=d0.agr y0
 refine Bt 4 31 b0 rfl rfl .plain (Ay (news:=[.bool q0.fBelow,j0]) u0 .hd rfl rfl rfl rfl rfl rfl (o2 rfl (AI k0))) (fun Z0 g0 v0=>?_)
 refine AE (doneD_ok b0 (by kernel_rfl))<|Al rfl<|Ao hb0 Tryz.func200 rfl (.cons (.many (cs:=[.bool q0.fBelow,j0]) (by kernel_rfl) rfl (g0.memA .hd)) .nil) rfl ?_
 cases h
 have z0:=Ap k0 v0
 exact ⟨g0.ag,fun w9 hw9=>⟨j0,rfl,g0.kd z0 hw9⟩⟩
end Go.Proofs.YtmhgoecnjleagaaGreatDoor
