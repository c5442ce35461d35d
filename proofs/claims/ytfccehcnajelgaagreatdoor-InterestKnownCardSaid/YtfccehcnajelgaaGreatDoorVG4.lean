import Derived.Test.YtfccehcnajelgaaGreatDoorVG2
namespace Go.Proofs.YtfccehcnajelgaaGreatDoor
open Go Go.RowKit Tryz
set_option maxRecDepth 4000
set_option maxHeartbeats 4000000

structure Tc where
  fp:ByteArray
  fx:Int
  fl:List Int
  fVotes:List Int
  fParents:List Int
  fy:Bool
  deriving DecidableEq
instance:Rep Tc:=Rep.via (β:=ByteArray × Int × (List Int) × (List Int) × (List Int) × Bool) fun x=>(x.fp,x.fx,x.fl,x.fVotes,x.fParents,x.fy)
structure Tg where
  fl:Int
  fh:Int
  fj:Int
  fm:List Tc
  deriving DecidableEq
instance:Rep Tg:=Rep.via (β:=Int × Int × Int × (List Tc)) fun x=>(x.fl,x.fh,x.fj,x.fm)
theorem dF:ElT Tryz.prog 72 4 (Rep.size Bool) 1 (.bool false) [.bool false]:=⟨underlying72,by kernel_rfl,rfl,rfl,rfl,rfl⟩
def bO_p (n:Nat) (a0:Tg) (a1:Tc):Option Bool:=
  jn (fun (c0,d0)=>(aq_p n a1.fp ⟨#[65,66,67,68,69,70,71,72,73,74,75,76,77,78,79,80,81,82,83,84,85,86,87,88,89,90,97,98,99,100,101,102,103,104,105,106,107,108,109,110,111,112,113,114,115,116,117,118,119,120,121,122,48,49,50,51,52,53,54,55,56,57,45,95]⟩).bind fun g0=>(aZ_p n a1.fl a0.fl a1.fx).bind fun j0=>(aZ_p n a1.fVotes a0.fh ((c0:Nat):Int)).bind fun k0=>(aZ_p n a1.fParents a0.fj ((d0:Nat):Int)).bind fun p0=>(aU_p n ([(!(decide (a1.fp = ⟨#[]⟩))),(decide (a1.fp.size <= 12)),(decide (g0 = ⟨#[]⟩)),(decide (0 <= a1.fx)),(decide (a1.fx <= ((c0:Nat):Int))),j0,k0,p0]:List Bool)).bind fun q0=>some q0) (fun b0=>(if a1.fy = true then b0 (0,0) else b0 (1000000000,63)))
theorem bO_c (n:Nat) {L w} (hL:hl L w) (a0:Tg) {v0_3:Value} (_h0_3:Rep.R w L [v0_3] a0.fm) (a1:Tc) {v1_2:Value} (h1_2:Rep.R w L [v1_2] a1.fl) {v1_3:Value} (h1_3:Rep.R w L [v1_3] a1.fVotes) {v1_4:Value} (h1_4:Rep.R w L [v1_4] a1.fParents)  {r:Bool} (h:bO_p n a0 a1 = some r) :
 Cl 190 #[.agg #[vI a0.fl,vI a0.fh,vI a0.fj,v0_3],.agg #[.string a1.fp,vI a1.fx,v1_2,v1_3,v1_4,.bool a1.fy]] w (ac w fun _ u=>u = .bool r):=by
 unfold bO_p at h
 refine AF func190 rfl rfl rfl fun _ cs0 hb0=>Ac<|RG.bx (AB w) rfl rfl fun R0 x0 B0 K0=>RG.bx B0 rfl rfl fun U0 y0 u0 M0=>Ah rfl<|Aa<|Ac<|Ah rfl<|Ah rfl<|Aa<|Aj<|Ac<|Bl 5 rfl<|AS rfl ((u0.memA .hd) 5 _ rfl)<|Aa<|MX.jo (α:=Nat × Nat) (fun ⟨g0,t0⟩=>[(2,vP x0),(3,vP y0),(5,vI ((g0:Nat):Int)),(6,vI ((t0:Nat):Int))]) (fun ⟨g0,t0⟩=>[.cells y0 [.string a1.fp,vI a1.fx,v1_2,v1_3,v1_4,.bool a1.fy] 96,.cells x0 [vI a0.fl,vI a0.fh,vI a0.fj,v0_3] 58]) (fun ⟨g0,t0⟩=>(g0,t0)) u0 h ?_ ?_
 rintro ⟨g0,t0⟩ W0 d0 P0 h
 try dsimp only at h
 refine Aj<|du 40 fun b0 c0=>Rv 0 b0 rfl c0 (fun _=>Bn 0 rfl)<|Rx 1 962072674308 b0 rfl c0 (AW rfl ((d0.memA .hd) 0 _ rfl))<|Rv 2 b0 rfl c0 (fun _=>FV.neqS rfl rfl)<|Rv 3 b0 rfl c0 (fun _=>Bn 0 rfl)<|Rx 4 962072674400 b0 rfl c0 (AW rfl ((d0.memA .hd) 0 _ rfl))<|Rx 5 962072674368 b0 rfl c0 (Bg underlying9 rfl)<|Rv 6 b0 rfl c0 (fun _=>FV.leqN (i:=a1.fp.size) (j:=12) rfl rfl)<|Rv 7 b0 rfl c0 (fun _=>Bn 0 rfl)<|Rx 8 1031882671616 b0 rfl c0 (AW rfl ((d0.memA .hd) 0 _ rfl))<|bk h fun s0 C0 h=>RD.cq 9 1023 1031882671104 (.string s0) b0 rfl c0 (bd 201) rfl (e2 rfl rfl) (fun p q=>aq_c n (d0.hL0 hL q)  C0) rfl<|Rv 10 b0 rfl c0 (fun _=>FV.eqlS rfl rfl)<|Rv 11 b0 rfl c0 (fun _=>Bn 1 rfl)<|Rx 12 962072682496 b0 rfl c0 (AW rfl ((d0.memA .hd) 1 _ rfl))<|Rv 13 b0 rfl c0 (fun _=>FV.geq (i:=a1.fx) (j:=0) rfl rfl)<|Rv 14 b0 rfl c0 (fun _=>Bn 1 rfl)<|Rx 15 962072805376 b0 rfl c0 (AW rfl ((d0.memA .hd) 1 _ rfl))<|Rv 16 b0 rfl c0 (fun _=>Ai rfl)<|Rv 17 b0 rfl c0 (fun _=>FV.leq (i:=a1.fx) (j:=((g0:Nat):Int)) rfl rfl)<|Rv 18 b0 rfl c0 (fun _=>Bn 2 rfl)<|Rx 19 1031882670080 b0 rfl c0 (AW rfl ((d0.memA .hd) 2 _ rfl))<|Rv 20 b0 rfl c0 (fun _=>Bn 0 rfl)<|Rx 21 1031882670080 b0 rfl c0 (AW rfl ((d0.memA .t1) 0 _ rfl))<|Rv 22 b0 rfl c0 (fun _=>Bn 1 rfl)<|Rx 23 1031882670080 b0 rfl c0 (AW rfl ((d0.memA .hd) 1 _ rfl))<|bk h fun q0 D0 h=>RD.cq 24 33554431 1031865892864 (.bool q0) b0 rfl c0 (bd 202) rfl (e3 rfl rfl rfl) (fun p q=>aZ_c n (d0.hL0 hL q) (d0.k0 h1_2 q) D0) rfl<|Rv 25 b0 rfl c0 (fun _=>Bn 3 rfl)<|Rx 26 1031865892864 b0 rfl c0 (AW rfl ((d0.memA .hd) 3 _ rfl))<|Rv 27 b0 rfl c0 (fun _=>Bn 1 rfl)<|Rx 28 1031865892864 b0 rfl c0 (AW rfl ((d0.memA .t1) 1 _ rfl))<|Rv 29 b0 rfl c0 (fun _=>Ai rfl)<|bk h fun p0 E0 h=>RD.cq 30 2147483647 1030792151040 (.bool p0) b0 rfl c0 (bd 202) rfl (e3 rfl rfl rfl) (fun p q=>aZ_c n (d0.hL0 hL q) (d0.k0 h1_3 q) E0) rfl<|Rv 31 b0 rfl c0 (fun _=>Bn 4 rfl)<|Rx 32 1030792151040 b0 rfl c0 (AW rfl ((d0.memA .hd) 4 _ rfl))<|Rv 33 b0 rfl c0 (fun _=>Bn 2 rfl)<|Rx 34 1030792151040 b0 rfl c0 (AW rfl ((d0.memA .t1) 2 _ rfl))<|Rv 35 b0 rfl c0 (fun _=>Ai rfl)<|bk h fun j0 F0 h=>RD.cq 36 137438953471 962072674304 (.bool j0) b0 rfl c0 (bd 202) rfl (e3 rfl rfl rfl) (fun p q=>aZ_c n (d0.hL0 hL q) (d0.k0 h1_4 q) F0) rfl<|RD.nu 37 274877906943 b0 rfl .plain rfl (AL (α:=Bool) (xs:=([(!(decide (a1.fp = ⟨#[]⟩))),(decide (a1.fp.size <= 12)),(decide (s0 = ⟨#[]⟩)),(decide (0 <= a1.fx)),(decide (a1.fx <= ((g0:Nat):Int))),q0,p0,j0]:List Bool)) (vs:=[.bool (!(decide (a1.fp = ⟨#[]⟩))),.bool (decide (a1.fp.size <= 12)),.bool (decide (s0 = ⟨#[]⟩)),.bool (decide (0 <= a1.fx)),.bool (decide (a1.fx <= ((g0:Nat):Int))),.bool q0,.bool p0,.bool j0]) (ds' :=[.bool (!(decide (a1.fp = ⟨#[]⟩))),.bool (decide (a1.fp.size <= 12)),.bool (decide (s0 = ⟨#[]⟩)),.bool (decide (0 <= a1.fx)),.bool (decide (a1.fx <= ((g0:Nat):Int))),.bool q0,.bool p0,.bool j0]) rfl d0 dF rfl (e8 rfl rfl rfl rfl rfl rfl rfl rfl) (by kernel_rfl) rfl) fun V0 J0 v0 Q0=>?_
 refine bk h fun H0 G0 h=>RD.cq 38 549755813887 549755813888 (.bool H0) b0 rfl c0 (bd 189) rfl (e1 rfl) (fun p q=>aU_c n (v0.hL0 hL q) (Am (St.lend (α:=Bool) (L:=L) v0 .hd (AG (cs:=[.bool (!(decide (a1.fp = ⟨#[]⟩))),.bool (decide (a1.fp.size <= 12)),.bool (decide (s0 = ⟨#[]⟩)),.bool (decide (0 <= a1.fx)),.bool (decide (a1.fx <= ((g0:Nat):Int))),.bool q0,.bool p0,.bool j0]) (xs:=(([(!(decide (a1.fp = ⟨#[]⟩))),(decide (a1.fp.size <= 12)),(decide (s0 = ⟨#[]⟩)),(decide (0 <= a1.fx)),(decide (a1.fx <= ((g0:Nat):Int))),q0,p0,j0]:List Bool):List Bool)) v0 L (Ak (cs:=[.bool (!(decide (a1.fp = ⟨#[]⟩)))]) (ds:=[.bool (decide (a1.fp.size <= 12)),.bool (decide (s0 = ⟨#[]⟩)),.bool (decide (0 <= a1.fx)),.bool (decide (a1.fx <= ((g0:Nat):Int))),.bool q0,.bool p0,.bool j0]) rfl (Ak (cs:=[.bool (decide (a1.fp.size <= 12))]) (ds:=[.bool (decide (s0 = ⟨#[]⟩)),.bool (decide (0 <= a1.fx)),.bool (decide (a1.fx <= ((g0:Nat):Int))),.bool q0,.bool p0,.bool j0]) rfl (Ak (cs:=[.bool (decide (s0 = ⟨#[]⟩))]) (ds:=[.bool (decide (0 <= a1.fx)),.bool (decide (a1.fx <= ((g0:Nat):Int))),.bool q0,.bool p0,.bool j0]) rfl (Ak (cs:=[.bool (decide (0 <= a1.fx))]) (ds:=[.bool (decide (a1.fx <= ((g0:Nat):Int))),.bool q0,.bool p0,.bool j0]) rfl (Ak (cs:=[.bool (decide (a1.fx <= ((g0:Nat):Int)))]) (ds:=[.bool q0,.bool p0,.bool j0]) rfl (Ak (cs:=[.bool q0]) (ds:=[.bool p0,.bool j0]) rfl (Ak (cs:=[.bool p0]) (ds:=[.bool j0]) rfl (Ak (cs:=[.bool j0]) (ds:=[]) rfl (AJ _ _)))))))))) hL) q) G0) rfl<|Rv 39 b0 rfl c0 (fun _=>AN rfl)<|AI (dk b0)<|Ao rfl<|AP hb0 func190 rfl rfl ?_
 cases h
 exact v0.gv
 intro I0 z0 h
 try dsimp only at h
 refine MX.ifb rfl h (fun A0 h=>?_) (fun A0 h=>?_)
 refine Ar<|Ah rfl<|Ah rfl<|Aa<|z0 (0,0) u0 (Tr.refl _ _) h
 refine Aq<|z0 (1000000000,63) u0 (Tr.refl _ _) h
theorem fB {w:World} {L:List Nat} {cs:List Value} {x:Tc} (h:Rep.R w L cs x):∃ v2 v3 v4:Value,cs = [.string x.fp,vI x.fx,v2,v3,v4,.bool x.fy]/\Rep.R w L [v2] x.fl/\Rep.R w L [v3] x.fVotes/\Rep.R w L [v4] x.fParents:=by
  obtain ⟨c0,r0,rfl,h0,h⟩:=h
  have e0:c0 = [.string x.fp]:=h0; subst e0
  obtain ⟨c1,r1,rfl,h1,h⟩:=h
  have e1:c1 = [vI x.fx]:=h1; subst e1
  obtain ⟨c2,r2,rfl,h2,h⟩:=h
  obtain ⟨v2,rfl,kv2⟩:=cE (xs:=x.fl) h2
  obtain ⟨c3,r3,rfl,h3,h⟩:=h
  obtain ⟨v3,rfl,kv3⟩:=cE (xs:=x.fVotes) h3
  obtain ⟨c4,r4,rfl,h4,h⟩:=h
  obtain ⟨v4,rfl,kv4⟩:=cE (xs:=x.fParents) h4
  have e5:r4 = [.bool x.fy]:=h; subst e5
  exact ⟨v2,v3,v4,rfl,kv2,kv3,kv4⟩
theorem ba {w:World} {L:List Nat} (a0:ByteArray) (a1:Int) (a2:List Int) {u2:Value} (h2:Rep.R w L [u2] a2) (a3:List Int) {u3:Value} (h3:Rep.R w L [u3] a3) (a4:List Int) {u4:Value} (h4:Rep.R w L [u4] a4) (a5:Bool):Rep.R w L [.string a0,vI a1,u2,u3,u4,.bool a5] (⟨a0,a1,a2,a3,a4,a5⟩:Tc):=⟨[.string a0],[vI a1,u2,u3,u4,.bool a5],rfl,rfl,⟨[vI a1],[u2,u3,u4,.bool a5],rfl,rfl,⟨[u2],[u3,u4,.bool a5],rfl,h2,⟨[u3],[u4,.bool a5],rfl,h3,⟨[u4],[.bool a5],rfl,h4,rfl⟩⟩⟩⟩⟩
def bf_l1 (n:Nat) (a0:Tg) (g0:Bool × Nat × (List (ByteArray × Bool)) -> Option (Int ⊕ Unit)):Bool × Nat × (List (ByteArray × Bool)) -> Option (Int ⊕ Unit)
  | (k0,d0,c0)=>(if d0 < a0.fm.length then (a0.fm[d0]?).bind fun b0=>(bO_p n a0 b0).bind fun j0=>(if b0.fy = true then (if 0 < d0 then (aU_p n ([j0,(!(ay c0 b0.fp false)),true,true]:List Bool)).bind fun p0=>(if p0 = true then g0 (b0.fy,d0 + 1,aV c0 b0.fp true) else some (.inl (161:Int))) else (aU_p n ([j0,(!(ay c0 b0.fp false)),true,(!b0.fy)]:List Bool)).bind fun q0=>(if q0 = true then g0 (b0.fy,d0 + 1,aV c0 b0.fp true) else some (.inl (161:Int)))) else (if 0 < d0 then (aU_p n ([j0,(!(ay c0 b0.fp false)),(!k0),true]:List Bool)).bind fun s0=>(if s0 = true then g0 (b0.fy,d0 + 1,aV c0 b0.fp true) else some (.inl (161:Int))) else (aU_p n ([j0,(!(ay c0 b0.fp false)),(!k0),(!b0.fy)]:List Bool)).bind fun t0=>(if t0 = true then g0 (b0.fy,d0 + 1,aV c0 b0.fp true) else some (.inl (161:Int))))) else some (.inr ()))
def bf_p (n:Nat) (a0:Tg):Option Int:=
  (aU_p n ([(decide (0 <= a0.fl)),(decide (a0.fl <= 6)),(decide (0 <= a0.fh)),(decide (a0.fh <= 12)),(decide (0 <= a0.fj)),(decide (a0.fj <= 3)),(decide (0 < a0.fm.length)),(decide (a0.fm.length <= 64))]:List Bool)).bind fun b0=>(if b0 = true then thn (au (bf_l1 n a0) n (false,0,([]:List (ByteArray × Bool)))) (fun _=>some (0:Int)) else some (161:Int))
theorem bf_c (n:Nat) {L w} (hL:hl L w) (a0:Tg) {v0_3:Value} (h0_3:Rep.R w L [v0_3] a0.fm)  {r:Int} (h:bf_p n a0 = some r) :
 Cl 166 #[.agg #[vI a0.fl,vI a0.fh,vI a0.fj,v0_3]] w (ac w fun _ u=>u = vI r):=by
 unfold bf_p at h
 refine AF func166 rfl rfl rfl fun _ cs0 hb0=>Ac<|RG.bx (AB w) rfl rfl fun P2 H0 u0 G2=>Ah rfl<|Aa<|Ac<|Bl 3 rfl<|AS rfl ((u0.memA .hd) 3 _ rfl) ?_
 have Q0:=AK h0_3 u0
 have K2:a0.fm.length <= 281474976710656:=AZ Q0
 refine Ab (Bd (xs:=a0.fm) underlying56 rfl Q0)<|Ah rfl<|Aa<|Aj<|Ac<|Bl 0 rfl<|AS rfl ((u0.memA .hd) 0 _ rfl)<|Ab (FV.geq (i:=a0.fl) (j:=0) rfl rfl)<|Bl 0 rfl<|AS rfl ((u0.memA .hd) 0 _ rfl)<|Ab (FV.leq (i:=a0.fl) (j:=6) rfl rfl)<|Bl 1 rfl<|AS rfl ((u0.memA .hd) 1 _ rfl)<|Ab (FV.geq (i:=a0.fh) (j:=0) rfl rfl)<|Bl 1 rfl<|AS rfl ((u0.memA .hd) 1 _ rfl)<|Ab (FV.leq (i:=a0.fh) (j:=12) rfl rfl)<|Bl 2 rfl<|AS rfl ((u0.memA .hd) 2 _ rfl)<|Ab (FV.geq (i:=a0.fj) (j:=0) rfl rfl)<|Bl 2 rfl<|AS rfl ((u0.memA .hd) 2 _ rfl)<|Ab (FV.leq (i:=a0.fj) (j:=3) rfl rfl)<|Ae rfl<|Ab (FV.gtrN (i:=a0.fm.length) (j:=0) rfl rfl)<|Ae rfl<|Ab (FV.leqN (i:=a0.fm.length) (j:=64) rfl rfl)<|Al .plain rfl (AL (α:=Bool) (xs:=([(decide (0 <= a0.fl)),(decide (a0.fl <= 6)),(decide (0 <= a0.fh)),(decide (a0.fh <= 12)),(decide (0 <= a0.fj)),(decide (a0.fj <= 3)),(decide (0 < a0.fm.length)),(decide (a0.fm.length <= 64))]:List Bool)) (vs:=[.bool (decide (0 <= a0.fl)),.bool (decide (a0.fl <= 6)),.bool (decide (0 <= a0.fh)),.bool (decide (a0.fh <= 12)),.bool (decide (0 <= a0.fj)),.bool (decide (a0.fj <= 3)),.bool (decide (0 < a0.fm.length)),.bool (decide (a0.fm.length <= 64))]) (ds' :=[.bool (decide (0 <= a0.fl)),.bool (decide (a0.fl <= 6)),.bool (decide (0 <= a0.fh)),.bool (decide (a0.fh <= 12)),.bool (decide (0 <= a0.fj)),.bool (decide (a0.fj <= 3)),.bool (decide (0 < a0.fm.length)),.bool (decide (a0.fm.length <= 64))]) rfl u0 dF rfl (e8 rfl rfl rfl rfl rfl rfl rfl rfl) (by kernel_rfl) rfl) fun Q2 y2 B0 H2=>bk h fun k2 V1 h=>AY (.bool k2) (bd 189) rfl (e1 rfl) (fun p q=>aU_c n (B0.hL0 hL q) (Am (St.lend (α:=Bool) (L:=L) B0 .hd (AG (cs:=[.bool (decide (0 <= a0.fl)),.bool (decide (a0.fl <= 6)),.bool (decide (0 <= a0.fh)),.bool (decide (a0.fh <= 12)),.bool (decide (0 <= a0.fj)),.bool (decide (a0.fj <= 3)),.bool (decide (0 < a0.fm.length)),.bool (decide (a0.fm.length <= 64))]) (xs:=(([(decide (0 <= a0.fl)),(decide (a0.fl <= 6)),(decide (0 <= a0.fh)),(decide (a0.fh <= 12)),(decide (0 <= a0.fj)),(decide (a0.fj <= 3)),(decide (0 < a0.fm.length)),(decide (a0.fm.length <= 64))]:List Bool):List Bool)) B0 L (Ak (cs:=[.bool (decide (0 <= a0.fl))]) (ds:=[.bool (decide (a0.fl <= 6)),.bool (decide (0 <= a0.fh)),.bool (decide (a0.fh <= 12)),.bool (decide (0 <= a0.fj)),.bool (decide (a0.fj <= 3)),.bool (decide (0 < a0.fm.length)),.bool (decide (a0.fm.length <= 64))]) rfl (Ak (cs:=[.bool (decide (a0.fl <= 6))]) (ds:=[.bool (decide (0 <= a0.fh)),.bool (decide (a0.fh <= 12)),.bool (decide (0 <= a0.fj)),.bool (decide (a0.fj <= 3)),.bool (decide (0 < a0.fm.length)),.bool (decide (a0.fm.length <= 64))]) rfl (Ak (cs:=[.bool (decide (0 <= a0.fh))]) (ds:=[.bool (decide (a0.fh <= 12)),.bool (decide (0 <= a0.fj)),.bool (decide (a0.fj <= 3)),.bool (decide (0 < a0.fm.length)),.bool (decide (a0.fm.length <= 64))]) rfl (Ak (cs:=[.bool (decide (a0.fh <= 12))]) (ds:=[.bool (decide (0 <= a0.fj)),.bool (decide (a0.fj <= 3)),.bool (decide (0 < a0.fm.length)),.bool (decide (a0.fm.length <= 64))]) rfl (Ak (cs:=[.bool (decide (0 <= a0.fj))]) (ds:=[.bool (decide (a0.fj <= 3)),.bool (decide (0 < a0.fm.length)),.bool (decide (a0.fm.length <= 64))]) rfl (Ak (cs:=[.bool (decide (a0.fj <= 3))]) (ds:=[.bool (decide (0 < a0.fm.length)),.bool (decide (a0.fm.length <= 64))]) rfl (Ak (cs:=[.bool (decide (0 < a0.fm.length))]) (ds:=[.bool (decide (a0.fm.length <= 64))]) rfl (Ak (cs:=[.bool (decide (a0.fm.length <= 64))]) (ds:=[]) rfl (AJ _ _)))))))))) hL) q) V1) rfl<|Ab (BC rfl)<|Aa<|MX.ifnb rfl h (fun X0 h=>?_) (fun X0 h=>?_)
 refine Aq<|Ac<|Al .plain rfl (Does.makeMap (κ:=ByteArray) (ν:=Bool) B0) fun X2 I0 G0 J2=>Ah rfl<|Aa<|Ac<|Ah rfl<|Aa<|Aj<|Ac<|Bl 3 rfl<|AS rfl ((G0.memA .t2) 3 _ rfl)<|Ab (Bd (xs:=a0.fm) underlying56 rfl (AK h0_3 G0))<|Ae rfl<|Aa<|Av ?_
 obtain ⟨p1,I2⟩:=AQ G0 (.a0 .d1)
 refine tn h fun M2 Q1 C0=>MX.lo (α:=Bool × Nat × (List (ByteArray × Bool))) (fun ⟨p0,q0,g0⟩=>[(1,vP H0),(4,.map (some I0)),(5,.bool p0),(38,v0_3),(39,vI ((a0.fm.length:Nat):Int)),(40,vI ((q0:Nat):Int))]) (fun ⟨p0,q0,g0⟩=>[.obj I0 (bm (g0:List (ByteArray × Bool))),.cells H0 [vI a0.fl,vI a0.fh,vI a0.fj,v0_3] 58]) (fun ⟨p0,q0,g0⟩=>(p0,q0,g0)) (false,0,([]:List (ByteArray × Bool))) Q1 p1 ?_
 rintro x2 ⟨p0,q0,g0⟩ j3 D0 F0 E0 h
 unfold bf_l1 at h
 try dsimp only at h
 refine Ac<|Ab (Bc (i:=q0) (j:=a0.fm.length) rfl rfl)<|Aa<|Aj<|AV rfl h (fun W0 h=>?_) (fun W0 h=>?_)
 refine Aq<|Aj<|Av<|Ac<|Ae rfl<|bk h fun b0 U1 h=>?_
 obtain ⟨v2,E2,K1,M1,F2,R1,P1⟩:=Br (AK h0_3 F0) U1
 obtain ⟨c2,g2,j2,rfl,R0,U0,V0⟩:=fB R1
 refine Ab (Bt 6 q0 rfl K1 rfl rfl M1)<|Ab (AH rfl P1)<|RG.nl [.string ⟨#[]⟩,vI 0,vN,vN,vN,.bool false] F0 fun R2 z2 q1 t0=>Ah rfl<|AR [.string b0.fp,vI b0.fx,c2,g2,j2,.bool b0.fy] q1 .hd (o6 rfl rfl (Bf (Ax R0 t0)) (Bf (Ax U0 t0)) (Bf (Ax V0 t0)) rfl) fun U2 s0 v0=>Aa<|Aj<|Aj<|du 24 fun c0 d0=>Rx 0 16727044 c0 rfl d0 (AH rfl (s0.memA .t2))<|Rx 1 16727044 c0 rfl d0 (AH rfl (s0.memA .hd))<|bk h fun j0 W1 h=>RD.cq 2 7 16727040 (.bool j0) c0 rfl d0 (bd 190) rfl (e2 rfl rfl) (fun p q=>bO_c n (s0.hL0 hL q) a0 (s0.k0 h0_3 q) b0 (s0.kd (Ax R0 (Tt t0 v0)) q) (s0.kd (Ax U0 (Tt t0 v0)) q) (s0.kd (Ax V0 (Tt t0 v0)) q) W1) rfl<|Rv 3 c0 rfl d0 (fun _=>Ai rfl)<|Rv 4 c0 rfl d0 (fun _=>Bn 0 rfl)<|Rx 5 14680256 c0 rfl d0 (AW rfl ((s0.memA .hd) 0 _ rfl))<|Rx 6 14680192 c0 rfl d0 (FV.lookup (kv:=b0.fp) (z:=false) s0 .t1 underlying104 underlying9 rfl rfl rfl rfl)<|Rv 7 c0 rfl d0 (fun _=>BC rfl)<|Rv 8 c0 rfl d0 (fun _=>Bn 5 rfl)<|Rx 9 16727040 c0 rfl d0 (AW rfl ((s0.memA .hd) 5 _ rfl))<|Rv 10 c0 rfl d0 (fun _=>Ai rfl)<|RD.ifb (s:=55) rfl h (fun Y0 h=>?_) (fun Y0 h=>?_)
 refine Ay 8191 11 [(11,56),(12,57)] (F:=[(55,true)]) (U:=[]) c0 d0 (.cons rfl .nil) .nil ?_
 dsimp only [ai,List.map]
 refine Rv 13 c0 rfl d0 (fun _=>Bm rfl rfl)<|Rv 14 c0 rfl d0 (fun _=>Ai rfl)<|Rv 15 c0 rfl d0 (fun _=>FV.gtrN (i:=q0) (j:=0) rfl rfl)<|Rv 16 c0 rfl d0 (fun _=>Ai rfl)<|RD.ifd (s:=61) rfl h (fun Z0 h=>?_) (fun Z0 h=>?_)
 refine Ay 1048575 4 [(17,62),(18,63),(19,64)] (F:=[(61,true)]) (U:=[]) c0 d0 (.cons rfl .nil) .nil ?_
 dsimp only [ai,List.map]
 refine Rv 20 c0 rfl d0 (fun _=>Bm rfl rfl)<|RD.nu 21 4194303 c0 rfl .plain rfl (AL (α:=Bool) (xs:=([j0,(!(ay g0 b0.fp false)),true,true]:List Bool)) (vs:=[.bool j0,.bool (!(ay g0 b0.fp false)),.bool true,.bool true]) (ds' :=[.bool j0,.bool (!(ay g0 b0.fp false)),.bool true,.bool true]) rfl s0 dF rfl (e4 rfl rfl rfl rfl) (by kernel_rfl) rfl) fun V2 A2 x0 y1=>bk h fun p2 X1 h=>RD.cq 22 8388607 8388608 (.bool p2) c0 rfl d0 (bd 189) rfl (e1 rfl) (fun p q=>aU_c n (x0.hL0 hL q) (Am (St.lend (α:=Bool) (L:=L) x0 .hd (AG (cs:=[.bool j0,.bool (!(ay g0 b0.fp false)),.bool true,.bool true]) (xs:=(([j0,(!(ay g0 b0.fp false)),true,true]:List Bool):List Bool)) x0 L (Ak (cs:=[.bool j0]) (ds:=[.bool (!(ay g0 b0.fp false)),.bool true,.bool true]) rfl (Ak (cs:=[.bool (!(ay g0 b0.fp false))]) (ds:=[.bool true,.bool true]) rfl (Ak (cs:=[.bool true]) (ds:=[.bool true]) rfl (Ak (cs:=[.bool true]) (ds:=[]) rfl (AJ _ _)))))) hL) q) X1) rfl<|Rv 23 c0 rfl d0 (fun _=>BC rfl)<|AI (dk c0)<|MX.ifnb rfl h (fun b1 h=>?_) (fun b1 h=>?_)
 refine Aq<|Ac<|Ae rfl<|Bl 0 rfl<|AS rfl ((x0.memA .t1) 0 _ rfl)<|RG.now .plain (Acts.mapUpdate (kv:=b0.fp) (vv:=true) x0 .t2 underlying104 underlying9 rfl rfl rfl rfl) fun W2 J0 z1=>Aa<|Ar<|Bl 5 rfl<|AS rfl ((J0.memA .t1) 5 _ rfl)<|Ah rfl<|Aa<|Aw<|Ar<|Ab (Bo (i:=q0) (j:=1) rfl rfl (by omega))<|Ae rfl<|Aa ?_
 obtain ⟨s1,A1⟩:=AQ J0 .d2
 exact D0 (b0.fy,q0 + 1,aV g0 b0.fp true) s1 (Tt E0 (Tt t0 (Tt v0 (Tt y1 (Tt z1 A1))))) h
 refine Ac<|Ah rfl<|Aa ?_
 have h:=av h C0
 refine Ao rfl<|AP hb0 func166 rfl rfl ?_
 cases h
 exact x0.gv
 refine Bs 17 262143 c0 rfl d0 (.yes rfl rfl) (fun _=>Bn 5 rfl) rfl<|RD.val (i:=18) (m' :=524287) (W:=16252928) (tk c0) rfl d0 (.yes rfl rfl) (AW rfl ((s0.memA .hd) 5 _ rfl)) rfl<|Bs 19 1048575 c0 rfl d0 (.yes rfl rfl) (fun _=>BC rfl) rfl<|Rv 20 c0 rfl d0 (fun _=>Ap rfl rfl)<|RD.nu 21 4194303 c0 rfl .plain rfl (AL (α:=Bool) (xs:=([j0,(!(ay g0 b0.fp false)),true,(!b0.fy)]:List Bool)) (vs:=[.bool j0,.bool (!(ay g0 b0.fp false)),.bool true,.bool (!b0.fy)]) (ds' :=[.bool j0,.bool (!(ay g0 b0.fp false)),.bool true,.bool (!b0.fy)]) rfl s0 dF rfl (e4 rfl rfl rfl rfl) (by kernel_rfl) rfl) fun Y2 B2 y0 B1=>bk h fun q2 Y1 h=>RD.cq 22 8388607 8388608 (.bool q2) c0 rfl d0 (bd 189) rfl (e1 rfl) (fun p q=>aU_c n (y0.hL0 hL q) (Am (St.lend (α:=Bool) (L:=L) y0 .hd (AG (cs:=[.bool j0,.bool (!(ay g0 b0.fp false)),.bool true,.bool (!b0.fy)]) (xs:=(([j0,(!(ay g0 b0.fp false)),true,(!b0.fy)]:List Bool):List Bool)) y0 L (Ak (cs:=[.bool j0]) (ds:=[.bool (!(ay g0 b0.fp false)),.bool true,.bool (!b0.fy)]) rfl (Ak (cs:=[.bool (!(ay g0 b0.fp false))]) (ds:=[.bool true,.bool (!b0.fy)]) rfl (Ak (cs:=[.bool true]) (ds:=[.bool (!b0.fy)]) rfl (Ak (cs:=[.bool (!b0.fy)]) (ds:=[]) rfl (AJ _ _)))))) hL) q) Y1) rfl<|Rv 23 c0 rfl d0 (fun _=>BC rfl)<|AI (dk c0)<|MX.ifnb rfl h (fun c1 h=>?_) (fun c1 h=>?_)
 refine Aq<|Ac<|Ae rfl<|Bl 0 rfl<|AS rfl ((y0.memA .t1) 0 _ rfl)<|RG.now .plain (Acts.mapUpdate (kv:=b0.fp) (vv:=true) y0 .t2 underlying104 underlying9 rfl rfl rfl rfl) fun Z2 K0 C1=>Aa<|Ar<|Bl 5 rfl<|AS rfl ((K0.memA .t1) 5 _ rfl)<|Ah rfl<|Aa<|Aw<|Ar<|Ab (Bo (i:=q0) (j:=1) rfl rfl (by omega))<|Ae rfl<|Aa ?_
 obtain ⟨u1,D1⟩:=AQ K0 .d2
 exact D0 (b0.fy,q0 + 1,aV g0 b0.fp true) u1 (Tt E0 (Tt t0 (Tt v0 (Tt B1 (Tt C1 D1))))) h
 refine Ac<|Ah rfl<|Aa ?_
 have h:=av h C0
 refine Ao rfl<|AP hb0 func166 rfl rfl ?_
 cases h
 exact y0.gv
 refine Bs 11 4095 c0 rfl d0 (.yes rfl rfl) (fun _=>Ai rfl) rfl<|Bs 12 8191 c0 rfl d0 (.yes rfl rfl) (fun _=>BC rfl) rfl<|Rv 13 c0 rfl d0 (fun _=>Ap rfl rfl)<|Rv 14 c0 rfl d0 (fun _=>Ai rfl)<|Rv 15 c0 rfl d0 (fun _=>FV.gtrN (i:=q0) (j:=0) rfl rfl)<|Rv 16 c0 rfl d0 (fun _=>Ai rfl)<|RD.ifd (s:=61) rfl h (fun g1 h=>?_) (fun g1 h=>?_)
 refine Ay 1048575 4 [(17,62),(18,63),(19,64)] (F:=[(61,true)]) (U:=[]) c0 d0 (.cons rfl .nil) .nil ?_
 dsimp only [ai,List.map]
 refine Rv 20 c0 rfl d0 (fun _=>Bm rfl rfl)<|RD.nu 21 4194303 c0 rfl .plain rfl (AL (α:=Bool) (xs:=([j0,(!(ay g0 b0.fp false)),(!p0),true]:List Bool)) (vs:=[.bool j0,.bool (!(ay g0 b0.fp false)),.bool (!p0),.bool true]) (ds' :=[.bool j0,.bool (!(ay g0 b0.fp false)),.bool (!p0),.bool true]) rfl s0 dF rfl (e4 rfl rfl rfl rfl) (by kernel_rfl) rfl) fun b3 C2 z0 E1=>bk h fun s2 Z1 h=>RD.cq 22 8388607 8388608 (.bool s2) c0 rfl d0 (bd 189) rfl (e1 rfl) (fun p q=>aU_c n (z0.hL0 hL q) (Am (St.lend (α:=Bool) (L:=L) z0 .hd (AG (cs:=[.bool j0,.bool (!(ay g0 b0.fp false)),.bool (!p0),.bool true]) (xs:=(([j0,(!(ay g0 b0.fp false)),(!p0),true]:List Bool):List Bool)) z0 L (Ak (cs:=[.bool j0]) (ds:=[.bool (!(ay g0 b0.fp false)),.bool (!p0),.bool true]) rfl (Ak (cs:=[.bool (!(ay g0 b0.fp false))]) (ds:=[.bool (!p0),.bool true]) rfl (Ak (cs:=[.bool (!p0)]) (ds:=[.bool true]) rfl (Ak (cs:=[.bool true]) (ds:=[]) rfl (AJ _ _)))))) hL) q) Z1) rfl<|Rv 23 c0 rfl d0 (fun _=>BC rfl)<|AI (dk c0)<|MX.ifnb rfl h (fun j1 h=>?_) (fun j1 h=>?_)
 refine Aq<|Ac<|Ae rfl<|Bl 0 rfl<|AS rfl ((z0.memA .t1) 0 _ rfl)<|RG.now .plain (Acts.mapUpdate (kv:=b0.fp) (vv:=true) z0 .t2 underlying104 underlying9 rfl rfl rfl rfl) fun c3 M0 F1=>Aa<|Ar<|Bl 5 rfl<|AS rfl ((M0.memA .t1) 5 _ rfl)<|Ah rfl<|Aa<|Aw<|Ar<|Ab (Bo (i:=q0) (j:=1) rfl rfl (by omega))<|Ae rfl<|Aa ?_
 obtain ⟨v1,G1⟩:=AQ M0 .d2
 exact D0 (b0.fy,q0 + 1,aV g0 b0.fp true) v1 (Tt E0 (Tt t0 (Tt v0 (Tt E1 (Tt F1 G1))))) h
 refine Ac<|Ah rfl<|Aa ?_
 have h:=av h C0
 refine Ao rfl<|AP hb0 func166 rfl rfl ?_
 cases h
 exact z0.gv
 refine Bs 17 262143 c0 rfl d0 (.yes rfl rfl) (fun _=>Bn 5 rfl) rfl<|RD.val (i:=18) (m' :=524287) (W:=16252928) (tk c0) rfl d0 (.yes rfl rfl) (AW rfl ((s0.memA .hd) 5 _ rfl)) rfl<|Bs 19 1048575 c0 rfl d0 (.yes rfl rfl) (fun _=>BC rfl) rfl<|Rv 20 c0 rfl d0 (fun _=>Ap rfl rfl)<|RD.nu 21 4194303 c0 rfl .plain rfl (AL (α:=Bool) (xs:=([j0,(!(ay g0 b0.fp false)),(!p0),(!b0.fy)]:List Bool)) (vs:=[.bool j0,.bool (!(ay g0 b0.fp false)),.bool (!p0),.bool (!b0.fy)]) (ds' :=[.bool j0,.bool (!(ay g0 b0.fp false)),.bool (!p0),.bool (!b0.fy)]) rfl s0 dF rfl (e4 rfl rfl rfl rfl) (by kernel_rfl) rfl) fun d3 D2 A0 H1=>bk h fun u2 b2 h=>RD.cq 22 8388607 8388608 (.bool u2) c0 rfl d0 (bd 189) rfl (e1 rfl) (fun p q=>aU_c n (A0.hL0 hL q) (Am (St.lend (α:=Bool) (L:=L) A0 .hd (AG (cs:=[.bool j0,.bool (!(ay g0 b0.fp false)),.bool (!p0),.bool (!b0.fy)]) (xs:=(([j0,(!(ay g0 b0.fp false)),(!p0),(!b0.fy)]:List Bool):List Bool)) A0 L (Ak (cs:=[.bool j0]) (ds:=[.bool (!(ay g0 b0.fp false)),.bool (!p0),.bool (!b0.fy)]) rfl (Ak (cs:=[.bool (!(ay g0 b0.fp false))]) (ds:=[.bool (!p0),.bool (!b0.fy)]) rfl (Ak (cs:=[.bool (!p0)]) (ds:=[.bool (!b0.fy)]) rfl (Ak (cs:=[.bool (!b0.fy)]) (ds:=[]) rfl (AJ _ _)))))) hL) q) b2) rfl<|Rv 23 c0 rfl d0 (fun _=>BC rfl)<|AI (dk c0)<|MX.ifnb rfl h (fun k1 h=>?_) (fun k1 h=>?_)
 refine Aq<|Ac<|Ae rfl<|Bl 0 rfl<|AS rfl ((A0.memA .t1) 0 _ rfl)<|RG.now .plain (Acts.mapUpdate (kv:=b0.fp) (vv:=true) A0 .t2 underlying104 underlying9 rfl rfl rfl rfl) fun g3 P0 I1=>Aa<|Ar<|Bl 5 rfl<|AS rfl ((P0.memA .t1) 5 _ rfl)<|Ah rfl<|Aa<|Aw<|Ar<|Ab (Bo (i:=q0) (j:=1) rfl rfl (by omega))<|Ae rfl<|Aa ?_
 obtain ⟨x1,J1⟩:=AQ P0 .d2
 exact D0 (b0.fy,q0 + 1,aV g0 b0.fp true) x1 (Tt E0 (Tt t0 (Tt v0 (Tt H1 (Tt I1 J1))))) h
 refine Ac<|Ah rfl<|Aa ?_
 have h:=av h C0
 refine Ao rfl<|AP hb0 func166 rfl rfl ?_
 cases h
 exact A0.gv
 refine Ba rfl ?_
 have h:=aB h C0
 try dsimp only at h
 refine Ac<|Ah rfl<|Aa<|Ao rfl<|AP hb0 func166 rfl rfl ?_
 cases h
 exact F0.gv
 refine Ac<|Ah rfl<|Aa<|Ao rfl<|AP hb0 func166 rfl rfl ?_
 cases h
 exact B0.gv
def ab_p (n:Nat) (a0:Bool) (a1:Int):Option (Except Te Unit):=
  (if a0 = true then (bq_p n a1).bind fun y2=>exc y2 (fun _y11=>some (.ok ())) (fun b0=>some (.error b0)) else some (.ok ()))
theorem ab_c (n:Nat) {L w} (hL:hl L w) {a0:Bool} {a1:Int}  {r:Except Te Unit} (h:ab_p n a0 a1 = some r) :
 Cl 167 #[.bool a0,vI a1] w (aL w (fun (_y:Unit) _ u=>u = .tuple #[]) (fun e=>.iface 237 (.agg #[vI e.ft])) r):=by
 unfold ab_p at h
 have hS0:=AB w
 refine MX.startP func167 rfl rfl rfl fun _ cs0 hb0 hp0=>Ac<|Ae rfl<|Aa<|MX.ifb rfl h (fun c1 h=>?_) (fun c1 h=>?_)
 refine Ar<|Ae rfl<|xk h (fun d0 hy2 h=>?_) (fun k0 hy2 h=>?_)
 refine Bv (fst:=[]) (cap:=[]) .plain (bd 165) rfl (e1 rfl) (fun p q=>bq_c n (hS0.hL0 hL q)  hy2) fun j0 c0=>?_
 obtain ⟨b0,g0⟩:=hS0.agr c0
 cases h
 exact Bk hp0 func167 ⟨b0.ag,rfl⟩
 refine AY (.tuple #[]) (bd 165) rfl (e1 rfl) (fun p q=>Be (bq_c n (hS0.hL0 hL q)  hy2)) rfl<|Aa<|MX.fin rfl<|Au hb0 func167 rfl .nil rfl ?_
 cases h
 exact ⟨hS0.ag,fun p q=>aE rfl⟩
 refine Aq<|MX.fin rfl<|Au hb0 func167 rfl .nil rfl ?_
 cases h
 exact ⟨hS0.ag,fun p q=>aE rfl⟩
structure Tj where
  fw:Tg
  fk:Int
  deriving DecidableEq
instance:Rep Tj:=Rep.via (β:=Tg × Int) fun x=>(x.fw,x.fk)
def bu_p (n:Nat) (a0:Tg) (a1:Int):Option (Except Te Tj):=
  (bf_p n a0).bind fun g0=>(bq_p n g0).bind fun j0=>exc j0 (fun _y23=>(if a1 < 1 then (ab_p n true (2:Int)).bind fun k0=>exc k0 (fun _y32=>some (.ok (⟨a0,a1⟩:Tj))) (fun c0=>some (.error c0)) else (ab_p n (decide (8 < a1)) (2:Int)).bind fun p0=>exc p0 (fun _y47=>some (.ok (⟨a0,a1⟩:Tj))) (fun d0=>some (.error d0)))) (fun b0=>some (.error b0))
theorem bu_c (n:Nat) {L w} (hL:hl L w) (a0:Tg) {v0_3:Value} (h0_3:Rep.R w L [v0_3] a0.fm) {a1:Int}  {r:Except Te Tj} (h:bu_p n a0 a1 = some r) :
 Cl 131 #[.agg #[vI a0.fl,vI a0.fh,vI a0.fj,v0_3],vI a1] w (aL w (fun (y:Tj) w' u=>∃ v0_3:Value,u = .agg #[vI y.fw.fl,vI y.fw.fh,vI y.fw.fj,v0_3,vI y.fk]/\Rep.R w' L [v0_3] y.fw.fm) (fun e=>.iface 237 (.agg #[vI e.ft])) r):=by
 unfold bu_p at h
 refine MX.startP func131 rfl rfl rfl fun _ cs0 hb0 hp0=>Ac<|RG.bx (AB w) rfl rfl fun c1 I0 u0 U0=>RG.nl [vI 0,vI 0,vI 0,vN,vI 0] u0 fun d1 J0 b0 V0=>Aa<|Ac<|Ab (AH rfl (b0.memA .t1))<|bk h fun F0 E0 h=>AY (vI F0) (bd 166) rfl (e1 rfl) (fun p q=>bf_c n (b0.hL0 hL q) a0 (b0.k0 h0_3 q) E0) rfl<|xk h (fun P0 g0 h=>?_) (fun s1 g0 h=>?_)
 refine Bv (fst:=[]) (cap:=[]) .plain (bd 165) rfl (e1 rfl) (fun p q=>bq_c n (b0.hL0 hL q)  g0) fun g1 z0=>?_
 obtain ⟨v0,W0⟩:=b0.agr z0
 cases h
 exact Bk hp0 func131 ⟨v0.ag,rfl⟩
 refine AY (.tuple #[]) (bd 165) rfl (e1 rfl) (fun p q=>Be (bq_c n (b0.hL0 hL q)  g0)) rfl<|Aa<|Ac<|Ae rfl<|Ab (FV.lss (i:=a1) (j:=1) rfl rfl)<|Ae rfl<|RG.ifd (s:=10) rfl h (fun t0 h=>?_) (fun t0 h=>?_)
 refine AC<|AC<|RG.pt rfl rfl<|xk h (fun Q0 j0 h=>?_) (fun u1 j0 h=>?_)
 refine Bv (fst:=[]) (cap:=[]) .plain (bd 167) rfl (e2 rfl rfl) (fun p q=>ab_c n (b0.hL0 hL q)  j0) fun j1 A0=>?_
 obtain ⟨x0,X0⟩:=b0.agr A0
 cases h
 exact Bk hp0 func131 ⟨x0.ag,rfl⟩
 refine AY (.tuple #[]) (bd 167) rfl (e2 rfl rfl) (fun p q=>Be (ab_c n (b0.hL0 hL q)  j0)) rfl<|Aa<|Ac<|Ab (AH rfl (b0.memA .t1))<|Ae rfl ?_
 have q0:=AK h0_3 b0
 obtain ⟨G0,K0,C0,_⟩:=Rep.sl q0
 refine Ab (AE (vs:=[.agg #[vI a0.fl,vI a0.fh,vI a0.fj,v0_3],vI a1]) (u:=.agg #[vI a0.fl,vI a0.fh,vI a0.fj,v0_3,vI a1]) (e2 rfl rfl) (fun p=>by rw [C0]; try kernel_rfl))<|AR [vI a0.fl,vI a0.fh,vI a0.fj,v0_3,vI a1] b0 .hd (o5 rfl rfl rfl (Bf q0) rfl) fun k1 c0 Y0=>Aa<|Ao rfl<|Au hb0 func131 rfl (.cons (.many (cs:=[vI a0.fl,vI a0.fh,vI a0.fj,v0_3,vI a1]) rfl rfl (c0.memA .hd)) .nil) rfl ?_
 cases h
 exact ⟨c0.ag,fun p q=>aE ⟨v0_3,rfl,c0.k0 h0_3 q⟩⟩
 refine AT (Ai rfl)<|AT (FV.gtr (i:=a1) (j:=8) rfl rfl)<|Bu rfl rfl<|xk h (fun R0 p0 h=>?_) (fun v1 p0 h=>?_)
 refine Bv (fst:=[]) (cap:=[]) .plain (bd 167) rfl (e2 rfl rfl) (fun p q=>ab_c n (b0.hL0 hL q)  p0) fun p1 B0=>?_
 obtain ⟨y0,Z0⟩:=b0.agr B0
 cases h
 exact Bk hp0 func131 ⟨y0.ag,rfl⟩
 refine AY (.tuple #[]) (bd 167) rfl (e2 rfl rfl) (fun p q=>Be (ab_c n (b0.hL0 hL q)  p0)) rfl<|Aa<|Ac<|Ab (AH rfl (b0.memA .t1))<|Ae rfl ?_
 have s0:=AK h0_3 b0
 obtain ⟨H0,M0,D0,_⟩:=Rep.sl s0
 refine Ab (AE (vs:=[.agg #[vI a0.fl,vI a0.fh,vI a0.fj,v0_3],vI a1]) (u:=.agg #[vI a0.fl,vI a0.fh,vI a0.fj,v0_3,vI a1]) (e2 rfl rfl) (fun p=>by rw [D0]; try kernel_rfl))<|AR [vI a0.fl,vI a0.fh,vI a0.fj,v0_3,vI a1] b0 .hd (o5 rfl rfl rfl (Bf s0) rfl) fun q1 d0 b1=>Aa<|Ao rfl<|Au hb0 func131 rfl (.cons (.many (cs:=[vI a0.fl,vI a0.fh,vI a0.fj,v0_3,vI a1]) rfl rfl (d0.memA .hd)) .nil) rfl ?_
 cases h
 exact ⟨d0.ag,fun p q=>aE ⟨v0_3,rfl,d0.k0 h0_3 q⟩⟩
theorem bY_c (_n:Nat) {L w} (_hL:hl L w) (a0:Tj) {v0_3:Value} (_h0_3:Rep.R w L [v0_3] a0.fw.fm)  :
 Cl 168 #[.agg #[vI a0.fw.fl,vI a0.fw.fh,vI a0.fw.fj,v0_3,vI a0.fk]] w (ac w fun w' u=>∃ b0:Nat,u = .func (.func 191) #[] #[vP b0]/\St w w' [.cells b0 [vI a0.fw.fl,vI a0.fw.fh,vI a0.fw.fj,v0_3,vI a0.fk] 206]):=by
 refine AF func168 rfl rfl rfl fun _ cs0 hb0=>Ac<|RG.bx (AB w) rfl rfl fun g0 b0 c0 d0=>Ah rfl<|Aa<|Ac<|Ab (FV.makeFunc (vs:=[]) (us:=[vP b0]) ah (e1 rfl))<|Ah rfl<|Aa<|Ao rfl<|Au (u:=.func (.func 191) #[] #[vP b0]) hb0 func168 rfl (.cons (.tmp rfl) .nil) rfl<|⟨c0.ag,fun p q=>⟨b0,rfl,c0.agree q⟩⟩
def al_l1 (n:Nat) (a1:List Int) (a0:Tj) (g0:Nat × (List (Int × Bool)) -> Option ((Except Te Unit) ⊕ (List (Int × Bool)))):Nat × (List (Int × Bool)) -> Option ((Except Te Unit) ⊕ (List (Int × Bool)))
  | (b0,d0)=>(if b0 < a1.length then (a1[b0]?).bind fun c0=>(if c0 < 0 then (ab_p n true (220:Int)).bind fun p0=>exc p0 (fun _y289=>g0 (b0 + 1,aV d0 c0 true)) (fun j0=>some (.inl (.error j0))) else (ab_p n (decide (a0.fk <= c0)) (220:Int)).bind fun q0=>exc q0 (fun _y305=>g0 (b0 + 1,aV d0 c0 true)) (fun k0=>some (.inl (.error k0)))) else some (.inr d0))
def al_l2 (n:Nat) (a1:List Int) (a0:Tj) (g0:Nat × (List (Int × Bool)) -> Option ((Except Te Unit) ⊕ (List (Int × Bool)))):Nat × (List (Int × Bool)) -> Option ((Except Te Unit) ⊕ (List (Int × Bool)))
  | (b0,d0)=>(if b0 < a1.length then (a1[b0]?).bind fun c0=>(if c0 < 0 then (ab_p n true (220:Int)).bind fun p0=>exc p0 (fun _y467=>g0 (b0 + 1,aV d0 c0 true)) (fun j0=>some (.inl (.error j0))) else (ab_p n (decide (a0.fk <= c0)) (220:Int)).bind fun q0=>exc q0 (fun _y483=>g0 (b0 + 1,aV d0 c0 true)) (fun k0=>some (.inl (.error k0)))) else some (.inr d0))
def al_l3 (n:Nat) (a0:Tj) (a1:List Int) (g0:Nat × Int -> Option ((Except Te Unit) ⊕ Int)):Nat × Int -> Option ((Except Te Unit) ⊕ Int)
  | (b0,c0)=>(if b0 < a0.fw.fm.length then (a0.fw.fm[b0]?).bind fun q0=>(if q0.fy = true then ((ab_p n (!(decide (((a1.length:Nat):Int) = c0))) (220:Int)).bind fun s0=>exc s0 (fun _y184=>thn (au (al_l1 n a1 a0) n (0,([]:List (Int × Bool)))) (fun d0=>(ab_p n (!(decide (((d0.length:Nat):Int) = a0.fk))) (220:Int)).bind fun t0=>exc t0 (fun _y321=>some (.ok ())) (fun k0=>some (.error k0)))) (fun j0=>some (.error j0))).map .inl else (chk (c0 + 1)).bind fun p0=>g0 (b0 + 1,p0)) else some (.inr c0))
def al_p (n:Nat) (a0:Tj) (a1:List Int):Option (Except Te Unit):=
  thn (au (al_l3 n a0 a1) n (0,0)) (fun k0=>(ab_p n (!(decide (((a1.length:Nat):Int) = k0))) (220:Int)).bind fun g0=>exc g0 (fun _y362=>thn (au (al_l2 n a1 a0) n (0,([]:List (Int × Bool)))) (fun b0=>(ab_p n (!(decide (((b0.length:Nat):Int) = a0.fk))) (220:Int)).bind fun j0=>exc j0 (fun _y499=>some (.ok ())) (fun d0=>some (.error d0)))) (fun c0=>some (.error c0)))
theorem al_c (n:Nat) {L w} (hL:hl L w) (a0:Tj) {v0_3:Value} (h0_3:Rep.R w L [v0_3] a0.fw.fm) {a1:List Int} {v1_0:Value} (h1_0:Rep.R w L [v1_0] a1)  {r:Except Te Unit} (h:al_p n a0 a1 = some r) :
 Cl 132 #[.agg #[vI a0.fw.fl,vI a0.fw.fh,vI a0.fw.fj,v0_3,vI a0.fk],v1_0] w (aL w (fun (_y:Unit) _ u=>u = .tuple #[]) (fun e=>.iface 237 (.agg #[vI e.ft])) r):=by
 unfold al_p at h
 refine MX.startP func132 rfl rfl rfl fun _ cs0 hb0 hp0=>Ac<|RG.bx (AB w) rfl rfl fun y6 y0 P1 Y4=>Aa<|Ac<|RG.nl [vI 0] P1 fun z6 C1 R1 c5=>AR [vI 0] R1 .hd (o1 rfl) fun x4 B0 p5=>Aa<|Aj<|Ac<|Ab (AH rfl (B0.memA .t1))<|jE (bd 168) rfl (e1 rfl) (fun p q=>Calls.gives (bY_c n (B0.hL hL q) a0 (B0.km h0_3 q)) fun (w8:World) (u8:Value) ⟨b0_,hu_,s_⟩=>(⟨b0_,hu_,s_.from q⟩:∃ z0:Nat,u8 = Value.func (.func 191) #[] #[vP z0]/\St x4 w8 [.cells z0 [vI a0.fw.fl,vI a0.fw.fh,vI a0.fw.fj,v0_3,vI a0.fk] 206])) rfl fun G6 x6 g6 ⟨z0,k4,x1⟩=>?_
 subst k4
 have x5:=cT B0 x1
 refine Aa<|Av<|MX.rangeP (lb:=[vP z0]) rfl (bF B0 x1) rfl (bd 191) func191 rfl rfl rfl fun w32 v1 D0 u4 K4 F0 F5 v4 k1 s6=>Ac<|Bl 0 rfl<|Bl 3 rfl<|AS rfl ((cH (F0.memA .t2) 0) 3 _ rfl) ?_
 have u1:=AK h0_3 F0
 have p6:a0.fw.fm.length <= 281474976710656:=AZ u1
 refine Ab (Bd (xs:=a0.fw.fm) underlying56 rfl u1)<|Ae rfl<|Aa<|Av<|tn h fun t6 V3 p1=>MX.lo (α:=Nat × Int) (fun ⟨j0,q0⟩=>[(0,.func (.yield v1) #[] #[]),(7,v0_3),(8,vI ((a0.fw.fm.length:Nat):Int)),(9,vI ((j0:Nat):Int))]) (fun ⟨j0,q0⟩=>[.obj v1 (lpO u4 .ready none),.obj D0 (.deferred (some [])),.cells z0 [vI a0.fw.fl,vI a0.fw.fh,vI a0.fw.fj,v0_3,vI a0.fk] 206,.cells C1 [vI q0] 3,.cells y0 [vI a0.fw.fl,vI a0.fw.fh,vI a0.fw.fj,v0_3,vI a0.fk] 206]) (fun ⟨j0,q0⟩=>(j0,q0)) (0,0) V3 F0 ?_
 rintro B4 ⟨j0,q0⟩ v7 M1 E0 Z2 h
 unfold al_l3 at h
 try dsimp only at h
 refine Ac<|Ab (Bc (i:=j0) (j:=a0.fw.fm.length) rfl rfl)<|Aa<|Aj<|AV rfl h (fun D1 h=>?_) (fun D1 h=>?_)
 refine Aq<|Aj<|Av<|Ac<|Ae rfl<|bk h fun x0 p4 h=>?_
 obtain ⟨y4,F4,F3,K3,I4,Y3,Q3⟩:=Br (AK h0_3 E0) p4
 obtain ⟨z1,A1,B1,rfl,Z3,b4,c4⟩:=fB Y3
 refine Ab (Bt 6 j0 rfl F3 rfl rfl K3)<|Ab (AH rfl Q3)<|RG.nl [.string ⟨#[]⟩,vI 0,vN,vN,vN,.bool false] E0 fun A6 E4 Q1 C0=>Ah rfl<|AR [.string x0.fp,vI x0.fx,z1,A1,B1,.bool x0.fy] Q1 .hd (o6 rfl rfl (Bf (Ax Z3 C0)) (Bf (Ax b4 C0)) (Bf (Ax c4 C0)) rfl) fun B6 A0 b3=>Aa<|Ac<|Bl 5 rfl<|AS rfl ((A0.memA .hd) 5 _ rfl)<|Ae rfl<|RG.ifb (s:=16) rfl h (fun E1 h=>?_) (fun E1 h=>?_)
 refine AC<|AC<|AC<|AC<|AC<|RG.pt rfl rfl<|Aa<|Bb rfl ?_
 have h:=dm h p1
 refine Ao rfl<|Au (u:=.tuple #[]) k1 func191 rfl .nil rfl<|MX.endRange0 A0 .t1 (by intro h9; cases h9) fun C6 U1 Z4=>?_
 obtain ⟨u0,b5⟩:=AQ U1 (.a0 .d1)
 refine Aw<|Ac<|Ae rfl ?_
 have q1:=AK h1_0 u0
 have j6:a1.length <= 281474976710656:=AZ q1
 refine Ab (Bd (xs:=a1) underlying53 rfl q1)<|AS rfl ((u0.memA .t3) 0 _ rfl)<|Ab (FV.neq (i:=((a1.length:Nat):Int)) (j:=q0) rfl rfl)<|xk h (fun M4 I0 h=>?_) (fun z7 I0 h=>?_)
 refine Bv (fst:=[]) (cap:=[]) .plain (bd 167) rfl (e2 rfl rfl) (fun p q=>ab_c n (u0.hL0 hL q)  I0) fun D6 v3=>?_
 obtain ⟨V1,d5⟩:=u0.agr v3
 refine PN.take V1 .t1 fun E6 W1 g5=>?_
 obtain ⟨X1,j5⟩:=AQ W1 (.a0 .d1)
 cases h
 exact Bk hp0 func132 ⟨X1.ag,rfl⟩
 refine AY (.tuple #[]) (bd 167) rfl (e2 rfl rfl) (fun p q=>Be (ab_c n (u0.hL0 hL q)  I0)) rfl<|Aa<|Ac<|Al .plain rfl (Does.makeMap (κ:=Int) (ν:=Bool) u0) fun F6 V0 Z0 k5=>Ah rfl<|Aa<|Aj<|Ac<|Ae rfl<|Ab (Bd (xs:=a1) underlying53 rfl (AK h1_0 Z0))<|Ae rfl<|Aa<|Av ?_
 obtain ⟨Y1,q5⟩:=AQ Z0 (.a0 (.a1 .d3))
 refine tn h fun u6 W3 G0=>MX.lo (α:=Nat × (List (Int × Bool))) (fun ⟨d0,k0⟩=>[(2,vP y0),(5,.map (some V0)),(20,v1_0),(21,vI ((a1.length:Nat):Int)),(22,vI ((d0:Nat):Int))]) (fun ⟨d0,k0⟩=>[.obj V0 (bm (k0:List (Int × Bool))),.obj D0 (.deferred (some [])),.cells y0 [vI a0.fw.fl,vI a0.fw.fh,vI a0.fw.fj,v0_3,vI a0.fk] 206]) (fun ⟨d0,k0⟩=>(d0,k0)) (0,([]:List (Int × Bool))) W3 Y1 ?_
 rintro C4 ⟨d0,k0⟩ x7 X0 b0 g1 h
 unfold al_l1 at h
 try dsimp only at h
 refine Ac<|Ab (Bc (i:=d0) (j:=a1.length) rfl rfl)<|Aa<|Aj<|AV rfl h (fun F1 h=>?_) (fun F1 h=>?_)
 refine Aq<|Aj<|Av<|Ac<|bk h fun s0 q4 h=>?_
 obtain ⟨z4,G4,G3,M3,J1,d4,R3⟩:=Br (AK h1_0 b0) q4
 have H3:J1 = [vI s0]:=d4; subst H3
 refine Ab (Bt 1 d0 rfl G3 rfl rfl M3)<|AS rfl (R3 0 _ rfl)<|Ah rfl<|Aa<|Ac<|Ae rfl<|Ab (FV.lss (i:=s0) (j:=0) rfl rfl)<|Ae rfl<|RG.ifd (s:=28) rfl h (fun G1 h=>?_) (fun G1 h=>?_)
 refine AC<|AC<|AC<|AC<|RG.pt rfl rfl<|xk h (fun P4 J0 h=>?_) (fun A7 J0 h=>?_)
 have h:=av h G0
 refine Bv (fst:=[]) (cap:=[]) .plain (bd 167) rfl (e2 rfl rfl) (fun p q=>ab_c n (b0.hL0 hL q)  J0) fun H6 x3=>?_
 obtain ⟨Z1,s5⟩:=b0.agr x3
 refine PN.take Z1 .t1 fun I6 b2 t5=>?_
 obtain ⟨c2,u5⟩:=AQ b2 (.a0 .d1)
 cases h
 exact Bk hp0 func132 ⟨c2.ag,rfl⟩
 refine AY (.tuple #[]) (bd 167) rfl (e2 rfl rfl) (fun p q=>Be (ab_c n (b0.hL0 hL q)  J0)) rfl<|Aa<|Ar<|Ae rfl<|Ae rfl<|RG.now .plain (Acts.mapUpdate (kv:=s0) (vv:=true) b0 .hd underlying242 underlying3 rfl rfl rfl rfl) fun J6 g2 c3=>Aa<|Aw<|Ar<|Ab (Bo (i:=d0) (j:=1) rfl rfl (by omega))<|Ae rfl<|Aa<|X0 (d0 + 1,aV k0 s0 true) g2 (Tt g1 c3) h
 refine AT (Ai rfl)<|RG.fg 4 rfl<|AT (AW rfl ((b0.memA .t2) 4 _ rfl))<|AT (FV.geq (i:=s0) (j:=a0.fk) rfl rfl)<|Bu rfl rfl<|xk h (fun Q4 K0 h=>?_) (fun B7 K0 h=>?_)
 have h:=av h G0
 refine Bv (fst:=[]) (cap:=[]) .plain (bd 167) rfl (e2 rfl rfl) (fun p q=>ab_c n (b0.hL0 hL q)  K0) fun K6 y3=>?_
 obtain ⟨j2,v5⟩:=b0.agr y3
 refine PN.take j2 .t1 fun M6 k2 y5=>?_
 obtain ⟨p2,z5⟩:=AQ k2 (.a0 .d1)
 cases h
 exact Bk hp0 func132 ⟨p2.ag,rfl⟩
 refine AY (.tuple #[]) (bd 167) rfl (e2 rfl rfl) (fun p q=>Be (ab_c n (b0.hL0 hL q)  K0)) rfl<|Aa<|Ar<|Ae rfl<|Ae rfl<|RG.now .plain (Acts.mapUpdate (kv:=s0) (vv:=true) b0 .hd underlying242 underlying3 rfl rfl rfl rfl) fun P6 q2 g3=>Aa<|Aw<|Ar<|Ab (Bo (i:=d0) (j:=1) rfl rfl (by omega))<|Ae rfl<|Aa<|X0 (d0 + 1,aV k0 s0 true) q2 (Tt g1 g3) h
 refine Ba rfl ?_
 have h:=aB h G0
 try dsimp only at h
 refine Ar<|Ae rfl<|Ab (FV.len_map (D:=k0) b0 .hd underlying242 rfl)<|Bl 4 rfl<|AS rfl ((b0.memA .t2) 4 _ rfl)<|Ab (FV.neq (i:=((k0.length:Nat):Int)) (j:=a0.fk) rfl rfl)<|xk h (fun R4 M0 h=>?_) (fun C7 M0 h=>?_)
 refine Bv (fst:=[]) (cap:=[]) .plain (bd 167) rfl (e2 rfl rfl) (fun p q=>ab_c n (b0.hL0 hL q)  M0) fun Q6 z3=>?_
 obtain ⟨s2,A5⟩:=b0.agr z3
 refine PN.take s2 .t1 fun R6 u2 B5=>?_
 obtain ⟨v2,C5⟩:=AQ u2 (.a0 .d1)
 cases h
 exact Bk hp0 func132 ⟨v2.ag,rfl⟩
 refine AY (.tuple #[]) (bd 167) rfl (e2 rfl rfl) (fun p q=>Be (ab_c n (b0.hL0 hL q)  M0)) rfl<|Aa<|MX.fin rfl<|RT.take b0 .t1 fun U6 x2 D5=>?_
 obtain ⟨y2,E5⟩:=AQ x2 (.a0 .d1)
 refine Au hb0 func132 rfl .nil rfl ?_
 cases h
 exact ⟨y2.ag,fun p q=>aE rfl⟩
 refine AT (Ai rfl)<|AT (Ai rfl)<|AT (AH rfl (A0.memA .hd))<|RG.yieldP (fd:=132) (vs:=[vI ((j0:Nat):Int),.agg #[.string x0.fp,vI x0.fx,z1,A1,B1,.bool x0.fy]]) (.yes rfl rfl) rfl (e2 rfl rfl) A0 .t1 v4 rfl rfl rfl fun J4 E3 q6=>Aq<|MX.begin A0 .t1 fun V6 b1 j3=>Av<|Ar<|AS rfl ((b1.memA .t4) 0 _ rfl)<|bk h fun y1 j4 h=>Ab (FV.addc (i:=q0) (j:=1) rfl rfl j4)<|AR [vI y1] b1 .t4 (o1 rfl) fun W6 z2 k3=>Aa<|Aw<|MX.roundEnd E3 z2 .t1 fun X6 A2 p3=>AT (BC rfl)<|Bu rfl rfl<|Aa<|Bj rfl<|Aq<|Aw<|Ar<|Ab (Bo (i:=j0) (j:=1) rfl rfl (by omega))<|Ae rfl<|Aa ?_
 obtain ⟨B2,q3⟩:=AQ A2 .d1
 exact M1 (j0 + 1,y1) B2 (Tt Z2 (Tt C0 (Tt b3 (Tt j3 (Tt k3 (Tt p3 q3)))))) h
 refine Ba rfl ?_
 have h:=aB h p1
 try dsimp only at h
 refine MX.fin rfl<|Au (u:=.tuple #[]) k1 func191 rfl .nil rfl<|MX.endRange0 E0 .hd (by intro h9; cases h9) fun Y6 C2 G5=>?_
 obtain ⟨v0,H5⟩:=AQ C2 .d1
 refine Aw<|Ac<|Ae rfl ?_
 have s1:=AK h1_0 v0
 have k6:a1.length <= 281474976710656:=AZ s1
 refine Ab (Bd (xs:=a1) underlying53 rfl s1)<|AS rfl ((v0.memA .t2) 0 _ rfl)<|Ab (FV.neq (i:=((a1.length:Nat):Int)) (j:=q0) rfl rfl)<|xk h (fun U4 P0 h=>?_) (fun D7 P0 h=>?_)
 refine Bv (fst:=[]) (cap:=[]) .plain (bd 167) rfl (e2 rfl rfl) (fun p q=>ab_c n (v0.hL0 hL q)  P0) fun Z6 A3=>?_
 obtain ⟨D2,I5⟩:=v0.agr A3
 refine PN.take D2 .hd fun b7 E2 J5=>?_
 obtain ⟨F2,K5⟩:=AQ E2 .d1
 cases h
 exact Bk hp0 func132 ⟨F2.ag,rfl⟩
 refine AY (.tuple #[]) (bd 167) rfl (e2 rfl rfl) (fun p q=>Be (ab_c n (v0.hL0 hL q)  P0)) rfl<|Aa<|Ac<|Al .plain rfl (Does.makeMap (κ:=Int) (ν:=Bool) v0) fun c7 W0 c1 M5=>Ah rfl<|Aa<|Aj<|Ac<|Ae rfl<|Ab (Bd (xs:=a1) underlying53 rfl (AK h1_0 c1))<|Ae rfl<|Aa<|Av ?_
 obtain ⟨G2,P5⟩:=AQ c1 (.a0 (.a0 .d2))
 refine tn h fun v6 X3 H0=>MX.lo (α:=Nat × (List (Int × Bool))) (fun ⟨g0,p0⟩=>[(2,vP y0),(5,.map (some W0)),(20,v1_0),(21,vI ((a1.length:Nat):Int)),(22,vI ((g0:Nat):Int))]) (fun ⟨g0,p0⟩=>[.obj W0 (bm (p0:List (Int × Bool))),.obj D0 (.deferred (some [])),.cells y0 [vI a0.fw.fl,vI a0.fw.fh,vI a0.fw.fj,v0_3,vI a0.fk] 206]) (fun ⟨g0,p0⟩=>(g0,p0)) (0,([]:List (Int × Bool))) X3 G2 ?_
 rintro D4 ⟨g0,p0⟩ y7 Y0 c0 j1 h
 unfold al_l2 at h
 try dsimp only at h
 refine Ac<|Ab (Bc (i:=g0) (j:=a1.length) rfl rfl)<|Aa<|Aj<|AV rfl h (fun H1 h=>?_) (fun H1 h=>?_)
 refine Aq<|Aj<|Av<|Ac<|bk h fun t0 s4 h=>?_
 obtain ⟨A4,H4,I3,P3,K1,g4,U3⟩:=Br (AK h1_0 c0) s4
 have J3:K1 = [vI t0]:=g4; subst J3
 refine Ab (Bt 1 g0 rfl I3 rfl rfl P3)<|AS rfl (U3 0 _ rfl)<|Ah rfl<|Aa<|Ac<|Ae rfl<|Ab (FV.lss (i:=t0) (j:=0) rfl rfl)<|Ae rfl<|RG.ifd (s:=28) rfl h (fun I1 h=>?_) (fun I1 h=>?_)
 refine AC<|AC<|AC<|AC<|RG.pt rfl rfl<|xk h (fun V4 Q0 h=>?_) (fun E7 Q0 h=>?_)
 have h:=av h H0
 refine Bv (fst:=[]) (cap:=[]) .plain (bd 167) rfl (e2 rfl rfl) (fun p q=>ab_c n (c0.hL0 hL q)  Q0) fun d7 B3=>?_
 obtain ⟨H2,Q5⟩:=c0.agr B3
 refine PN.take H2 .t1 fun g7 I2 R5=>?_
 obtain ⟨J2,U5⟩:=AQ I2 (.a0 .d1)
 cases h
 exact Bk hp0 func132 ⟨J2.ag,rfl⟩
 refine AY (.tuple #[]) (bd 167) rfl (e2 rfl rfl) (fun p q=>Be (ab_c n (c0.hL0 hL q)  Q0)) rfl<|Aa<|Ar<|Ae rfl<|Ae rfl<|RG.now .plain (Acts.mapUpdate (kv:=t0) (vv:=true) c0 .hd underlying242 underlying3 rfl rfl rfl rfl) fun j7 K2 s3=>Aa<|Aw<|Ar<|Ab (Bo (i:=g0) (j:=1) rfl rfl (by omega))<|Ae rfl<|Aa<|Y0 (g0 + 1,aV p0 t0 true) K2 (Tt j1 s3) h
 refine AT (Ai rfl)<|RG.fg 4 rfl<|AT (AW rfl ((c0.memA .t2) 4 _ rfl))<|AT (FV.geq (i:=t0) (j:=a0.fk) rfl rfl)<|Bu rfl rfl<|xk h (fun W4 R0 h=>?_) (fun F7 R0 h=>?_)
 have h:=av h H0
 refine Bv (fst:=[]) (cap:=[]) .plain (bd 167) rfl (e2 rfl rfl) (fun p q=>ab_c n (c0.hL0 hL q)  R0) fun k7 C3=>?_
 obtain ⟨M2,V5⟩:=c0.agr C3
 refine PN.take M2 .t1 fun p7 P2 W5=>?_
 obtain ⟨Q2,X5⟩:=AQ P2 (.a0 .d1)
 cases h
 exact Bk hp0 func132 ⟨Q2.ag,rfl⟩
 refine AY (.tuple #[]) (bd 167) rfl (e2 rfl rfl) (fun p q=>Be (ab_c n (c0.hL0 hL q)  R0)) rfl<|Aa<|Ar<|Ae rfl<|Ae rfl<|RG.now .plain (Acts.mapUpdate (kv:=t0) (vv:=true) c0 .hd underlying242 underlying3 rfl rfl rfl rfl) fun q7 R2 u3=>Aa<|Aw<|Ar<|Ab (Bo (i:=g0) (j:=1) rfl rfl (by omega))<|Ae rfl<|Aa<|Y0 (g0 + 1,aV p0 t0 true) R2 (Tt j1 u3) h
 refine Ba rfl ?_
 have h:=aB h H0
 try dsimp only at h
 refine Ar<|Ae rfl<|Ab (FV.len_map (D:=p0) c0 .hd underlying242 rfl)<|Bl 4 rfl<|AS rfl ((c0.memA .t2) 4 _ rfl)<|Ab (FV.neq (i:=((p0.length:Nat):Int)) (j:=a0.fk) rfl rfl)<|xk h (fun X4 U0 h=>?_) (fun G7 U0 h=>?_)
 refine Bv (fst:=[]) (cap:=[]) .plain (bd 167) rfl (e2 rfl rfl) (fun p q=>ab_c n (c0.hL0 hL q)  U0) fun s7 D3=>?_
 obtain ⟨U2,Y5⟩:=c0.agr D3
 refine PN.take U2 .t1 fun t7 V2 Z5=>?_
 obtain ⟨W2,b6⟩:=AQ V2 (.a0 .d1)
 cases h
 exact Bk hp0 func132 ⟨W2.ag,rfl⟩
 refine AY (.tuple #[]) (bd 167) rfl (e2 rfl rfl) (fun p q=>Be (ab_c n (c0.hL0 hL q)  U0)) rfl<|Aa<|MX.fin rfl<|RT.take c0 .t1 fun u7 X2 c6=>?_
 obtain ⟨Y2,d6⟩:=AQ X2 (.a0 .d1)
 refine Au hb0 func132 rfl .nil rfl ?_
 cases h
 exact ⟨Y2.ag,fun p q=>aE rfl⟩
def bv_p (n:Nat) (a0:Tg) (a1:Int) (a2:List Int):Option (Except Te Bool):=
  (bu_p n a0 a1).bind fun y3=>exc y3 (fun d0=>(al_p n d0 a2).bind fun g0=>exc g0 (fun _y26=>some (.ok true)) (fun c0=>some (.error c0))) (fun b0=>some (.error b0))
theorem bv_c (n:Nat) {L w} (hL:hl L w) (a0:Tg) {v0_3:Value} (h0_3:Rep.R w L [v0_3] a0.fm) {p0:Nat} (m0:∀ j9 v9,([vI a0.fl,vI a0.fh,vI a0.fj,v0_3]:List Value)[j9]? = some v9 -> w.cell? ((⟨p0,0,none⟩:Addr).add j9) = some v9) {a1:Int} {p1:Nat} (m1:∀ j9 v9,([vI a1]:List Value)[j9]? = some v9 -> w.cell? ((⟨p1,0,none⟩:Addr).add j9) = some v9) {a2:List Int} {v2_0:Value} (h2_0:Rep.R w L [v2_0] a2) {p2:Nat} (m2:∀ j9 v9,([v2_0]:List Value)[j9]? = some v9 -> w.cell? ((⟨p2,0,none⟩:Addr).add j9) = some v9)  {r:Except Te Bool} (h:bv_p n a0 a1 a2 = some r) :
 Cl 130 #[.pointer (some ⟨p0,0,none⟩),.pointer (some ⟨p1,0,none⟩),.pointer (some ⟨p2,0,none⟩)] w (aL w (fun (y:Bool) _ u=>u = .bool y) (fun e=>.iface 237 (.agg #[vI e.ft])) r):=by
 unfold bv_p at h
 have hS0:=AB w
 refine MX.startP func130 rfl rfl rfl fun _ cs0 hb0 hp0=>Ac<|Ah rfl<|Aa<|Aj<|du 5 fun kt1 kp2=>Rx 0 20 kt1 rfl kp2 (AH rfl (fun j9 v9 h9=>hS0.ag.cell0 (m0 j9 v9 h9)))<|Rx 1 20 kt1 rfl kp2 (AW rfl ((fun j9 v9 h9=>hS0.ag.cell0 (m1 j9 v9 h9)) 0 _ rfl))<|xk h (fun v0 hy3 h=>?_) (fun g0 hy3 h=>?_)
 refine Rx 3 16 kt1 rfl kp2 (AW rfl ((fun j9 v9 h9=>hS0.ag.cell0 (m2 j9 v9 h9)) 0 _ rfl))<|RD.one (i:=2) (rk kt1) (RO.callE (fst:=[]) (cap:=[]) rfl .plain (bd 131) rfl (e2 rfl rfl) (fun p q=>bu_c n (hS0.hL hL q) a0 (Am h0_3 q) hy3) (fun D0 s0=>?_))
 obtain ⟨j0,y0⟩:=hS0.agr s0
 cases h
 exact Bk hp0 func130 ⟨j0.ag,rfl⟩
 refine Rx 3 16 kt1 rfl kp2 (AW rfl ((fun j9 v9 h9=>hS0.ag.cell0 (m2 j9 v9 h9)) 0 _ rfl))<|Bz 2 15 kt1 rfl .plain (bd 131) rfl (e2 rfl rfl) (fun p q=>Be (bu_c n (hS0.hL hL q) a0 (Am h0_3 q) hy3)) rfl fun E0 C0 t0 ⟨B0,hu_,d0⟩=>?_
 subst hu_
 obtain ⟨b0,z0⟩:=hS0.agr t0
 refine xk h (fun x0 c0 h=>?_) (fun G0 c0 h=>?_)
 refine RD.one (i:=4) (rk kt1) (RO.callE (fst:=[]) (cap:=[]) rfl .plain (bd 132) rfl (e2 rfl rfl) (fun p q=>al_c n (b0.hL0 hL q) g0 (b0.kd d0 q) (b0.k0 h2_0 q) c0) (fun F0 u0=>?_))
 obtain ⟨q0,A0⟩:=b0.agr u0
 cases h
 exact Bk hp0 func130 ⟨q0.ag,rfl⟩
 refine RD.cq 4 31 0 (.tuple #[]) kt1 rfl kp2 (bd 132) rfl (e2 rfl rfl) (fun p q=>Be (al_c n (b0.hL0 hL q) g0 (b0.kd d0 q) (b0.k0 h2_0 q) c0)) rfl<|AI (dk kt1)<|Ac<|Ah rfl<|Aa<|Ao rfl<|AP hb0 func130 rfl rfl ?_
 cases h
 exact ⟨b0.ag,fun p q=>aE rfl⟩
def bj_p (n:Nat) (a0:Tg) (a1:List Int) (a2:Int):Option Int:=
  (bv_p n a0 a2 a1).bind fun c0=>exc c0 (fun _y41=>some (0:Int)) (fun b0=>some b0.ft)
theorem bj_c (n:Nat) {L w} (hL:hl L w) (a0:Tg) {v0_3:Value} (h0_3:Rep.R w L [v0_3] a0.fm) {a1:List Int} {v1_0:Value} (h1_0:Rep.R w L [v1_0] a1) {a2:Int}  {r:Int} (h:bj_p n a0 a1 a2 = some r) :
 Cl 95 #[.agg #[vI a0.fl,vI a0.fh,vI a0.fj,v0_3],v1_0,vI a2] w (ac w fun _ u=>u = vI r):=by
 unfold bj_p at h
 refine AF func95 rfl rfl rfl fun _ cs0 hb0=>Ac<|RG.bx (AB w) rfl rfl fun G1 g0 D0 x1=>RG.bx D0 rfl (Rep.c1 (AK h1_0 D0)) fun K1 j0 K0 y1=>RG.bx K0 rfl rfl fun M1 p0 M0 z1=>Ah rfl<|Aa<|Ac<|Ab (FV.makeFunc (vs:=[]) (us:=[vP g0,vP p0,vP j0]) ah (e3 rfl rfl rfl))<|Bq (fst:=[]) (cap:=[]) (vs:=[.func (.func 130) #[] #[vP g0,vP p0,vP j0]]) .plain (bd 129) func129 rfl rfl rfl rfl (e1 rfl) rfl fun p1 E0 F1=>Ac<|RG.nl [.bool false] M0 fun P1 q0 P0 A1=>RG.nl [vI 0] P0 fun Q1 d0 b0 B1=>Aa<|Ac<|Ab (FV.makeFunc (vs:=[]) (us:=[vP q0,vP d0]) ah (e2 rfl rfl))<|RG.defer (fst:=[]) (cap:=[vP q0,vP d0]) (vs:=[]) rfl .plain rfl ah<|Aa<|Ac<|Ae rfl<|xk h (fun s0 z0 h=>?_) (fun B0 z0 h=>?_)
 refine Bv (fst:=[]) (cap:=[vP g0,vP p0,vP j0]) .plain (bd 130) rfl ah (fun p q=>bv_c n (b0.hL0 hL q) a0 (b0.k0 h0_3 q) (aq q (b0.memA .t4)) (aq q (b0.memA .t2)) (b0.k0 h1_0 q) (aq q (b0.memA .t3)) z0) fun R1 W0=>?_
 obtain ⟨Q0,C1⟩:=b0.agr W0
 refine PN.callD (vs:=[]) (cap:=[vP q0,vP d0]) (bd 164) func164 rfl rfl rfl fun k1 X0 Z0=>Ac<|RG.recover1 .plain X0 rfl<|Ah rfl<|Aa<|Ac<|Ae rfl<|Ab (FV.neqI underlying20 rfl rfl)<|Aa<|Bb rfl<|Ac<|Ae rfl<|Ab (FV.assertT rfl rfl)<|Ae rfl<|Ab (Ag rfl rfl)<|Ab (Ag rfl rfl)<|RG.nl [vI 0] Q0 fun U1 g1 R0 D1=>AR [vI s0.ft] R0 .hd (o1 rfl) fun V1 t0 E1=>Ah rfl<|Aa<|Aj<|Ac<|Ae rfl<|Ab (BC rfl)<|Aa<|Bj rfl<|Aq<|Ac<|Ah rfl<|Aa<|du 3 fun c0 A0=>Rv 0 c0 rfl A0 (fun _=>Ai rfl)<|Rv 1 c0 rfl A0 (fun _=>Bn 0 rfl)<|RD.mo (α:=Unit) (fun ()=>[(1,vP d0),(19,vI s0.ft)]) (fun ()=>[.cells d0 [vI 0] 35,.cells q0 [.bool false] 4,.cells p0 [vI a2] 3,.cells j0 [v1_0] 53,.cells g0 [vI a0.fl,vI a0.fh,vI a0.fj,v0_3] 58]) t0 1 15 ?_ ?_
 rintro ⟨⟩ W1 G0 q1
 try dsimp only
 refine BB 4 31 c0 rfl rfl .plain (Az (news:=[vI s0.ft]) G0 .hd rfl rfl rfl rfl rfl rfl (o1 rfl)) fun H1 v0 s1=>AI (dk c0)<|MX.fin rfl<|RT.leaveD1 Z0 func164 rfl .nil<|Au (u:=.tuple #[.bool false,vI s0.ft]) E0 func129 rfl (.cons (.one rfl rfl ((v0.memA .t1) 0 _ rfl)) (.cons (.one rfl rfl ((v0.memA .hd) 0 _ rfl)) .nil)) rfl<|Ae rfl<|Ab (Ag rfl rfl)<|Ab (Ag rfl rfl)<|Ah rfl<|Ah rfl<|Aa<|Ac<|Ae rfl<|Ah rfl<|Aa<|Ao rfl<|AP hb0 func95 rfl rfl ?_
 cases h
 exact v0.gv
 intro C0
 refine RD.each [2,3] (rk c0) ⟨?_,?_,trivial⟩
 refine RO.val (m' :=7) (sk c0) rfl .plain rfl (AW rfl ((t0.memA .hd) 0 _ rfl))<|BB 3 15 c0 rfl rfl .plain (Az (news:=[.bool false]) t0 .t2 rfl rfl rfl rfl rfl rfl (o1 rfl)) fun b1 u0 y0=>?_
 obtain ⟨H0,U0⟩:=AQ u0 .d1
 exact C0 () H0 (Tt y0 U0)
 refine RO.now (m' :=11) (sk c0) rfl rfl .plain (Az (news:=[.bool false]) t0 .t2 rfl rfl rfl rfl rfl rfl (o1 rfl)) fun b1 u0 y0=>Rx 2 16 c0 rfl A0 (AW rfl ((u0.memA .hd) 0 _ rfl)) ?_
 obtain ⟨I0,V0⟩:=AQ u0 .d1
 exact C0 () I0 (Tt y0 V0)
 refine RG.callq' (v:=.bool B0) (fst:=[]) (cap:=[vP g0,vP p0,vP j0]) .plain (bd 130) rfl ah (fun p q=>Be (bv_c n (b0.hL0 hL q) a0 (b0.k0 h0_3 q) (aq q (b0.memA .t4)) (aq q (b0.memA .t2)) (b0.k0 h1_0 q) (aq q (b0.memA .t3)) z0)) rfl<|AR [.bool B0] b0 .t1 (o1 rfl) fun I1 J0 u1=>AR [vI 0] J0 .hd (o1 rfl) fun J1 x0 v1=>Aa<|Ao rfl<|RT.callD (vs:=[]) (cap:=[vP q0,vP d0]) (bd 164) func164 rfl rfl rfl fun j1 F0 Y0=>Ac<|RG.recover0 .plain F0 rfl<|Ah rfl<|Aa<|Ac<|Ae rfl<|Ab (FV.neqI0 underlying20 rfl rfl)<|Aa<|Bj rfl<|Aq<|MX.fin rfl<|RT.leaveD0 F0 Y0 func164 rfl .nil<|Au (u:=.tuple #[.bool B0,vI 0]) E0 func129 rfl (.cons (.one rfl rfl ((x0.memA .t1) 0 _ rfl)) (.cons (.one rfl rfl ((x0.memA .hd) 0 _ rfl)) .nil)) rfl<|Ae rfl<|Ab (Ag rfl rfl)<|Ab (Ag rfl rfl)<|Ah rfl<|Ah rfl<|Aa<|Ac<|Ae rfl<|Ah rfl<|Aa<|Ao rfl<|AP hb0 func95 rfl rfl ?_
 cases h
 exact x0.gv
def ac_p (_n:Nat) (a0:Tb) (a1:Int):Option (Except Te Tb):=
  (if a1 = 0 then some (.ok a0) else some (.error (⟨a1⟩:Te)))
theorem ac_c (n:Nat) {L w} (_hL:hl L w) (a0:Tb) {a1:Int}  {r:Except Te Tb} (h:ac_p n a0 a1 = some r) :
 Cl 65 #[.agg ((aa a0)).toArray,vI a1] w (aL w (fun (y:Tb) _ u=>u = .agg ((aa y)).toArray) (fun e=>.iface 176 (.agg #[vI e.ft])) r):=by
 unfold ac_p at h
 refine MX.startP func65 rfl rfl rfl fun _ cs0 hb0 hp0=>Ac<|RG.bx (AB w) rfl rfl fun t0 j0 g0 p0=>RG.nl zL g0 fun u0 k0 b0 q0=>Aa<|Aj<|Ac<|Ae rfl<|Ab (FV.neq (i:=a1) (j:=0) rfl rfl)<|Aa<|MX.ifn rfl h (fun d0 h=>?_) (fun d0 h=>?_)
 refine Aq<|Ac<|Ab (AH rfl (b0.memA .t1))<|AR (aa a0) b0 .hd (aj rfl) fun v0 c0 s0=>Aa<|Ao rfl<|Au hb0 func65 rfl (.cons (.many (cs:=(aa a0)) rfl rfl (c0.memA .hd)) .nil) rfl ?_
 cases h
 exact ⟨c0.ag,fun p q=>aE rfl⟩
 refine Ar<|Ae rfl<|Ab (AE (vs:=[vI a1]) (u:=.agg #[vI a1]) (e1 rfl) (fun p=>by kernel_rfl))<|Ab (FV.makeInterface rfl rfl)<|RG.panic .plain rfl ?_
 cases h
 exact Bk hp0 func65 ⟨b0.ag,rfl⟩
def aJ_p (n:Nat) (a0:Int) (a1:Int):Option (Except Te Tb):=
  (bN_p n a0 a1).bind fun b0=>(ac_p n b0.1 b0.2).bind fun d0=>exc d0 (fun g0=>some (.ok g0)) (fun c0=>some (.error c0))
theorem aJ_c (n:Nat) {L w} (hL:hl L w) {a0:Int} {a1:Int}  {r:Except Te Tb} (h:aJ_p n a0 a1 = some r) :
 Cl 64 #[vI a0,vI a1] w (aL w (fun (y:Tb) _ u=>u = .agg ((aa y)).toArray) (fun e=>.iface 176 (.agg #[vI e.ft])) r):=by
 unfold aJ_p at h
 refine MX.startP func64 rfl rfl rfl fun _ cs0 hb0 hp0=>Ac<|RG.nl zL (AB w) fun y0 s0 b0 u0=>Aa<|Ac<|Ae rfl<|Ae rfl<|bk h fun c0 q0 h=>AY (.tuple #[.agg ((aa c0.1)).toArray,vI c0.2]) (bd 45) rfl (e2 rfl rfl) (fun p q=>bN_c n (b0.hL0 hL q)  q0) rfl<|Ab (Ag rfl rfl)<|Ab (Ag rfl rfl)<|xk h (fun t0 d0 h=>?_) (fun g0 d0 h=>?_)
 refine Bv (fst:=[]) (cap:=[]) .plain (bd 65) rfl (e2 rfl rfl) (fun p q=>ac_c n (b0.hL0 hL q) c0.1 d0) fun z0 p0=>?_
 obtain ⟨k0,v0⟩:=b0.agr p0
 cases h
 exact Bk hp0 func64 ⟨k0.ag,rfl⟩
 refine AY (.agg ((aa g0)).toArray) (bd 65) rfl (e2 rfl rfl) (fun p q=>Be (ac_c n (b0.hL0 hL q) c0.1 d0)) rfl<|AR (aa g0) b0 .hd (aj rfl) fun A0 j0 x0=>Aa<|Ao rfl<|Au hb0 func64 rfl (.cons (.many (cs:=(aa g0)) rfl rfl (j0.memA .hd)) .nil) rfl ?_
 cases h
 exact ⟨j0.ag,fun p q=>aE rfl⟩
def aA_p (_n:Nat) (a0:UInt64):Option Int:=
  (if a0 = (0:UInt64) then some (64:Int) else (tab0[(shrU ((a0 &&& (-a0)) * (285870213051353865:UInt64)) 58).toNat]?).bind fun z2=>some ((z2.toNat:Nat):Int))
theorem aA_c (n:Nat) {L w} (_hL:hl L w) (a0:UInt64) (hG0:Glob 0 tab0 w)  {r:Int} (h:aA_p n a0 = some r) :
 Cl 134 #[vU a0] w (ac w fun _ u=>u = vI r):=by
 unfold aA_p at h
 have hS0:=AB w
 refine AF func134 rfl rfl rfl fun _ cs0 hb0=>Ac<|Ah rfl<|Aa<|Aj<|Ac<|Ae rfl<|Ab (FV.eqlU (a:=a0) (b:=(0:UInt64)) rfl rfl)<|Aa<|AV rfl h (fun c1 h=>?_) (fun c1 h=>?_)
 refine Ac<|Ah rfl<|Aa<|Ao rfl<|AP hb0 func134 rfl rfl ?_
 cases h
 exact hS0.gv
 refine Aq<|Ac<|Ae rfl<|Ae rfl<|Ab (FV.negU (a:=a0) rfl)<|Ab (FV.andU (a:=a0) (b:=-a0) rfl rfl)<|Ab (FV.mulU (a:=a0 &&& (-a0)) (b:=(285870213051353865:UInt64)) rfl rfl)<|Ab (FV.shrU (a:=(a0 &&& (-a0)) * (285870213051353865:UInt64)) (j:=58) rfl rfl)<|bk h fun z2 hz2 h=>Ab (AU (m:=1) (k:=(shrU ((a0 &&& (-a0)) * (285870213051353865:UInt64)) 58).toNat) (len:=64) rfl rfl rfl rfl (tab_lt hz2 rfl))<|AS rfl (hG0.keep hS0.ag _ _ hz2) ?_
 have hu3:=z2.toNat_lt
 refine Ab (FV.convN (i:=z2.toNat) underlying5 underlying3 rfl (by omega))<|Ah rfl<|Aa<|Ao rfl<|AP hb0 func134 rfl rfl ?_
 cases h
 exact hS0.gv
theorem bX_c (_n:Nat) {L w} (_hL:hl L w) (a0:UInt64)  :
 Cl 97 #[vU a0] w (ac w fun w' u=>∃ b0:Nat,u = .func (.func 133) #[] #[vP b0]/\St w w' [.cells b0 [vU a0] 28]):=by
 refine AF func97 rfl rfl rfl fun _ cs0 hb0=>Ac<|RG.bx (AB w) rfl rfl fun g0 b0 c0 d0=>Ah rfl<|Aa<|Ac<|Ab (FV.makeFunc (vs:=[]) (us:=[vP b0]) ah (e1 rfl))<|Ah rfl<|Aa<|Ao rfl<|Au (u:=.func (.func 133) #[] #[vP b0]) hb0 func97 rfl (.cons (.tmp rfl) .nil) rfl<|⟨c0.ag,fun p q=>⟨b0,rfl,c0.agree q⟩⟩
structure Th where
  fw:Tg
  fplan:List Int
  fk:Int
  deriving DecidableEq
instance:Rep Th:=Rep.via (β:=Tg × (List Int) × Int) fun x=>(x.fw,x.fplan,x.fk)
def ai_l1 (_n:Nat) (j0:List UInt64) (d0:Nat × (List UInt64) -> Option (List UInt64)):Nat × (List UInt64) -> Option (List UInt64)
  | (b0,c0)=>(if b0 < j0.length then (j0[b0]?).bind fun g0=>(if g0 = (0:UInt64) then d0 (b0 + 1,c0) else (app c0 ([g0]:List UInt64)).bind fun k0=>d0 (b0 + 1,k0)) else some c0)
def ai_l2 (n:Nat) (a0:Th) (j0:UInt64 × (List UInt64) -> Option (List UInt64)):UInt64 × (List UInt64) -> Option (List UInt64)
  | (b0,c0)=>(if b0 = (0:UInt64) then some c0 else (aA_p n b0).bind fun g0=>(idx a0.fplan g0).bind fun d0=>(idx c0 d0).bind fun p0=>(cA g0).bind fun k0=>(put c0 ((d0.toNat:Nat):Int) (p0 ||| (shlU (1:UInt64) k0))).bind fun q0=>j0 (b0 &&& (b0 - (1:UInt64)),q0))
def ai_p (n:Nat) (a0:Th) (a1:Ta):Option (List UInt64):=
  (mk a0.fk (0:UInt64)).bind fun c0=>Option.bind (au (ai_l2 n a0) n (a1.fm,c0)) (fun b0=>Option.bind (au (ai_l1 n b0) n (0,([]:List UInt64))) (fun d0=>some d0))
theorem ai_c (n:Nat) {L w} (hL:hl L w) (a0:Th) {v0_3:Value} (_h0_3:Rep.R w L [v0_3] a0.fw.fm) {v0_4:Value} (h0_4:Rep.R w L [v0_4] a0.fplan) (a1:Ta) (hG0:Glob 0 tab0 w)  {r:List UInt64} (h:ai_p n a0 a1 = some r) :
 Cl 68 #[.agg #[vI a0.fw.fl,vI a0.fw.fh,vI a0.fw.fj,v0_3,v0_4,vI a0.fk],.agg #[.string a1.fp,vI a1.fu,vU a1.fm]] w (ac w fun w' u=>∃ v0_0:Value,u = v0_0/\Rep.R w' L [v0_0] r):=by
 unfold ai_p at h
 refine AF func68 rfl rfl rfl fun _ cs0 hb0=>Ac<|RG.bx (AB w) rfl rfl fun y4 V0 b2 c4=>RG.bx b2 rfl rfl fun z4 W0 Z0 d4=>Ah rfl<|Aa<|Ac<|Bl 5 rfl<|AS rfl ((Z0.memA .t1) 5 _ rfl)<|bk h fun H1 B1 h=>Al .plain rfl (Does.mk (α:=UInt64) B1 Z0 bT rfl) fun B4 t0 g1 g4=>?_
 have H2:=AG (cs:=(List.replicate a0.fk.toNat [vW 0]).flatten) (xs:=H1) g1 L (Cells.mk B1 rfl)
 refine RG.nl [vN] g1 fun C4 X0 G0 y2=>RG.now .plain (Az (news:=[(.slice (some ⟨t0,0,none⟩) a0.fk.toNat a0.fk.toNat)]) G0 .hd rfl rfl rfl (St.c1 (α:=UInt64) G0 .t1) rfl rfl (o1 (St.o1 (α:=UInt64) G0 .t1))) fun w32 C0 C2=>Aa<|Aj<|Ac<|Bl 2 rfl<|AS rfl ((C0.memA .t2) 2 _ rfl)<|jE (bd 97) rfl (e1 rfl) (fun p q=>Calls.gives (bX_c n (C0.hL hL q) a1.fm) fun (w8:World) (u8:Value) ⟨b0_,hu_,s_⟩=>(⟨b0_,hu_,s_.from q⟩:∃ v0:Nat,u8 = Value.func (.func 133) #[] #[vP v0]/\St w32 w8 [.cells v0 [vU a1.fm] 28])) rfl fun H4 x4 k4 ⟨v0,u3,D1⟩=>?_
 subst u3
 refine Aa<|Av<|MX.rangeP (lb:=[vP v0]) rfl (bF C0 D1) rfl (bd 133) func133 rfl rfl rfl fun M4 U0 B0 C1 b4 s2 E2 F3 G2 s4=>Av ?_
 obtain ⟨u4,g3,V2⟩:=ar h
 refine MX.lf (α:=UInt64 × (List UInt64) × (List Value)) (fun ⟨b0,d0,q0⟩=>[(0,.func (.yield U0) #[] #[]),(1,vP v0)]) (fun ⟨b0,d0,q0⟩=>[.obj U0 (lpO C1 .ready none),.obj B0 (.deferred (some [])),.cells v0 [vU b0] 28,.cells X0 [(.slice (some ⟨t0,0,none⟩) a0.fk.toNat a0.fk.toNat)] 75,rr w 28 UInt64 (.slice (some ⟨t0,0,none⟩) a0.fk.toNat a0.fk.toNat) d0.length q0,.cells W0 [.string a1.fp,vI a1.fu,vU a1.fm] 65,.cells V0 [vI a0.fw.fl,vI a0.fw.fh,vI a0.fw.fj,v0_3,v0_4,vI a0.fk] 119]) (fun ⟨b0,d0,q0⟩ E1=>Cells E1 (bl [.obj U0 (lpO C1 .ready none),.obj B0 (.deferred (some [])),.cells v0 [vU b0] 28,.cells X0 [(.slice (some ⟨t0,0,none⟩) a0.fk.toNat a0.fk.toNat)] 75,rr w 28 UInt64 (.slice (some ⟨t0,0,none⟩) a0.fk.toNat a0.fk.toNat) d0.length q0,.cells W0 [.string a1.fp,vI a1.fu,vU a1.fm] 65,.cells V0 [vI a0.fw.fl,vI a0.fw.fh,vI a0.fw.fj,v0_3,v0_4,vI a0.fk] 119] ++ L) q0 d0) (fun ⟨b0,d0,q0⟩=>(b0,d0)) (a1.fm,H1,(List.replicate a0.fk.toNat [vW 0]).flatten) g3 s2 (AX H2 (Tt y2 (Tt C2 (Tt (cT C0 D1) E2)))) ?_
 rintro M3 ⟨b0,d0,q0⟩ E1 Z1 x0 u2 v1 h
 unfold ai_l2 at h
 try dsimp only at h
 refine Aj<|Ac<|AS rfl ((x0.memA .t2) 0 _ rfl)<|Ab (FV.neqU (a:=b0) (b:=(0:UInt64)) rfl rfl)<|Aa<|MX.ifn rfl h (fun P1 h=>?_) (fun P1 h=>?_)
 refine Ba rfl ?_
 have h:=V2 _ h
 try dsimp only at h
 refine MX.fin rfl<|Au (u:=.tuple #[]) G2 func133 rfl .nil rfl<|MX.endRange0 x0 .hd (by intro h9; cases h9) fun A4 c2 v2=>?_
 obtain ⟨z0,x2⟩:=AQ c2 .d1
 refine Aw<|Aj<|Ac<|AS rfl ((z0.memA .t2) 0 _ rfl) ?_
 have p4:d0.length <= 4294967296:=St.rowLe (α:=UInt64) z0 .t3
 obtain ⟨J3,R3,K2⟩:=St.rowV (α:=UInt64) z0 .t3
 refine Ab (FV.lenV underlying75 rfl K2)<|Ae rfl<|Aa<|Av ?_
 have b1:=z0.nilRow 28 (Rep.size UInt64)
 obtain ⟨d2,j1⟩:=AQ b1 (.a0 (.a0 (.a2 .done)))
 obtain ⟨v4,j3,W2⟩:=ar h
 refine MX.lf (α:=Nat × (List UInt64) × Value × (List Value)) (fun ⟨g0,p0,k0,u0⟩=>[(4,k0),(28,(.slice (some ⟨t0,0,none⟩) a0.fk.toNat a0.fk.toNat)),(29,vI ((d0.length:Nat):Int)),(30,vI ((g0:Nat):Int))]) (fun ⟨g0,p0,k0,u0⟩=>[rr w 28 UInt64 k0 p0.length u0,.obj B0 (.deferred (some [])),rr w 28 UInt64 (.slice (some ⟨t0,0,none⟩) a0.fk.toNat a0.fk.toNat) d0.length q0]) (fun ⟨g0,p0,k0,u0⟩ F1=>Cells F1 (bl [rr w 28 UInt64 k0 p0.length u0,.obj B0 (.deferred (some [])),rr w 28 UInt64 (.slice (some ⟨t0,0,none⟩) a0.fk.toNat a0.fk.toNat) d0.length q0] ++ L) u0 p0) (fun ⟨g0,p0,k0,u0⟩=>(g0,p0)) (0,([]:List UInt64),vN,[]) j3 d2 (AX (AG (cs:=[]) (xs:=([]:List UInt64)) b1 L (AJ _ _)) j1) ?_
 rintro P3 ⟨g0,p0,k0,u0⟩ F1 Y0 A0 M0 P0 h
 unfold ai_l1 at h
 try dsimp only at h
 refine Ac<|Ab (Bc (i:=g0) (j:=d0.length) rfl rfl)<|Aa<|Aj<|AV rfl h (fun Q1 h=>?_) (fun Q1 h=>?_)
 refine Aq<|Aj<|Av<|Ac<|bk h fun s0 v3 h=>?_
 obtain ⟨I1,U3,Q0,z1,U1,k3,b3⟩:=St.nth (α:=UInt64) A0 .t2 (AX v1 (Tt v2 (Tt x2 (Tt (St.nilRowT z0 28 (Rep.size UInt64)) (Tt j1 M0))))) v3
 obtain ⟨K1,V3,M2⟩:=St.nthOwn (α:=UInt64) A0 .t2 z1
 obtain rfl:I1 = ⟨K1,0,none⟩:=by rw [M2] at Q0; cases Q0; rfl
 have P2:U1 = [vU s0]:=k3; subst P2
 refine Ab (Bt 1 g0 rfl Q0 rfl rfl z1)<|AS rfl (b3 0 _ rfl)<|Ah rfl<|Aa<|Ac<|Ae rfl<|Ab (FV.neqU (a:=s0) (b:=(0:UInt64)) rfl rfl)<|Aa<|MX.ifn rfl h (fun R1 h=>?_) (fun R1 h=>?_)
 refine Aq<|Aw<|Ar<|Ab (Bo (i:=g0) (j:=1) rfl rfl (by omega))<|Ae rfl<|Aa<|Y0 (g0 + 1,p0,k0,u0) A0 M0 P0 h
 refine Ar<|Ae rfl<|Ae rfl<|Al .plain rfl (jA s0 (vU s0) A0 bT (e1 rfl)) fun D4 Q3 H0 k1=>bk h fun H3 B3 h=>RG.doesL .plain rfl (DoesL.app (α:=UInt64) (ys:=([s0]:List UInt64)) B3 H0 (fun _ _=>.t1) bT rfl rfl (AX P0 k1) (Src.row (α:=UInt64) H0 .hd (jC s0 (vU s0) H0 L rfl))) fun G3 E4 ⟨V1,g2,z2,I2⟩=>Ah rfl<|Aa<|Aw<|Ar<|Ab (Bo (i:=g0) (j:=1) rfl rfl (by omega))<|Ae rfl<|Aa ?_
 obtain ⟨j2,p1⟩:=AQ g2 .d1
 exact Y0 (g0 + 1,H3,G3,V1) j2 (Tt M0 (Tt k1 (Tt z2 p1))) (AX I2 p1) h
 refine Ba rfl ?_
 have h:=W2 _ h
 try dsimp only at h
 refine Ac<|Ae rfl<|Ah rfl<|Aa<|Ao rfl<|RT.take A0 .t1 fun F4 k2 A2=>?_
 obtain ⟨I0,B2⟩:=AQ k2 (.a0 .d1)
 have J0:=Bw I0 .hd
 have j4:=Bx I0 .hd
 have p3:=By (α:=UInt64) (v:=k0) (xs:=p0) J0 L (Bh (α:=UInt64) I0 .hd (AX P0 (Tt A2 B2)) hL)
 refine AP hb0 func68 rfl rfl ?_
 cases h
 exact ⟨J0.ag,fun p q=>⟨k0,rfl,J0.kd p3 q⟩⟩
 refine Aq<|Aj<|Av<|Ac<|Ae rfl<|AS rfl ((x0.memA .t2) 0 _ rfl)<|bk h fun F0 D3 h=>AY (vI F0) (bd 134) rfl (e1 rfl) (fun p q=>aA_c n (x0.hL0 hL q) b0 (hG0.keep (x0.ag.trans q)) D3) rfl<|RG.yieldP (fd:=68) (vs:=[vI F0]) .plain rfl (e1 rfl) x0 .hd F3 rfl rfl rfl fun Z3 F2 q4=>Ar<|Ah rfl<|Aa<|MX.begin x0 .hd fun G4 y0 q1=>Av<|du 12 fun c0 j0=>Rx 0 7360 c0 rfl j0 (AW rfl ((y0.memA .t3) 0 _ rfl))<|Rv 1 c0 rfl j0 (fun _=>Bn 4 rfl)<|Rx 2 7408 c0 rfl j0 (AW rfl ((y0.memA .t6) 4 _ rfl))<|Rv 3 c0 rfl j0 (fun _=>Ai rfl)<|bk h fun E0 x3 h=>?_
 obtain ⟨X2,y3⟩:=aS x3
 obtain ⟨K3,W3,Q2,Y2,W1,q3,c3⟩:=Br (AK h0_4 y0) y3
 have R2:W1 = [vI E0]:=q3; subst R2
 refine Rv 4 c0 rfl j0 (fun _=>Bt 1 (F0.toNat) rfl Q2 rfl X2 Y2)<|Rx 5 7360 c0 rfl j0 (AW rfl (c3 0 _ rfl))<|bk h fun G1 z3 h=>?_
 obtain ⟨y1,A3⟩:=aS z3
 have A1:=AX v1 q1
 obtain ⟨J1,X3,D0,R0,X1,s3,d3⟩:=St.nth (α:=UInt64) y0 .t4 A1 A3
 obtain ⟨M1,Y3,x1⟩:=St.nthOwn (α:=UInt64) y0 .t4 R0
 obtain rfl:J1 = ⟨M1,0,none⟩:=by rw [x1] at D0; cases D0; rfl
 have U2:X1 = [vU G1]:=s3; subst U2
 refine Rv 6 c0 rfl j0 (fun _=>Bt 1 (E0.toNat) rfl D0 rfl y1 R0)<|Rx 7 7168 c0 rfl j0 (AW rfl (d3 0 _ rfl))<|Rv 8 c0 rfl j0 (fun _=>Ai rfl)<|bk h fun E3 Z2 h=>Rv 9 c0 rfl j0 (fun _=>FV.shlI (a:=(1:UInt64)) (i:=F0) rfl rfl Z2)<|Rv 10 c0 rfl j0 (fun _=>FV.orU (a:=G1) (b:=shlU (1:UInt64) E3) rfl rfl)<|Rv 11 c0 rfl j0 (fun _=>Bt 1 (E0.toNat) rfl D0 rfl y1 R0)<|bk h fun I3 C3 h=>RD.one (i:=12) (rk c0) (RO.acts (m' :=8191) (sk c0) rfl rfl .plain (Acts.set (α:=UInt64) (i:=E0.toNat) C3 y0 x1 (fun _=>.t4) A1 rfl rfl rfl rfl rfl rfl) (fun I4 ⟨Y1,p2,D2,J2⟩=>?_))
 refine AI (dk c0)<|Aw<|MX.roundEnd F2 p2 .hd fun J4 K0 s1=>Ab (BC rfl)<|Aa<|Bj rfl<|Aq<|Aw<|Ar<|AS rfl ((K0.memA .t2) 0 _ rfl)<|AS rfl ((K0.memA .t2) 0 _ rfl)<|Ab (FV.subU (a:=b0) (b:=(1:UInt64)) rfl rfl)<|Ab (FV.andU (a:=b0) (b:=b0 - (1:UInt64)) rfl rfl)<|AR [vW ((b0 &&& (b0 - (1:UInt64))).toNat:Int)] K0 .t2 (o1 rfl) fun K4 q2 u1=>Aa<|Z1 (b0 &&& (b0 - (1:UInt64)),I3,Y1) q2 (Tt u2 (Tt q1 (Tt D2 (Tt s1 u1)))) (AX J2 (Tt s1 u1)) h
def ak_l1 (n:Nat) (a1:Th) (d0:UInt64 × Int -> Option Int):UInt64 × Int -> Option Int
  | (b0,c0)=>(if b0 = (0:UInt64) then some c0 else (aA_p n b0).bind fun k0=>(idx a1.fw.fm k0).bind fun j0=>(chk (c0 + j0.fx)).bind fun g0=>d0 (b0 &&& (b0 - (1:UInt64)),g0))
def ak_p (n:Nat) (a0:UInt64) (a1:Th):Option Int:=
  Option.bind (au (ak_l1 n a1) n (a0,0)) (fun b0=>some b0)
theorem ak_c (n:Nat) {L w} (hL:hl L w) (a0:UInt64) (a1:Th) {v1_3:Value} (h1_3:Rep.R w L [v1_3] a1.fw.fm) {v1_4:Value} (_h1_4:Rep.R w L [v1_4] a1.fplan) {p1:Nat} (m1:∀ j9 v9,([vI a1.fw.fl,vI a1.fw.fh,vI a1.fw.fj,v1_3,v1_4,vI a1.fk]:List Value)[j9]? = some v9 -> w.cell? ((⟨p1,0,none⟩:Addr).add j9) = some v9) (hG0:Glob 0 tab0 w)  {r:Int} (h:ak_p n a0 a1 = some r) :
 Cl 96 #[vU a0,.pointer (some ⟨p1,0,none⟩)] w (ac w fun _ u=>u = vI r):=by
 unfold ak_p at h
 refine AF func96 rfl rfl rfl fun _ cs0 hb0=>Ac<|RG.nl [vI 0] (AB w) fun y1 B0 q0 G1=>Aa<|Aj<|Ac<|Ae rfl<|jE (bd 97) rfl (e1 rfl) (fun p q=>Calls.gives (bX_c n (q0.hL hL q) a0) fun (w8:World) (u8:Value) ⟨b0_,hu_,s_⟩=>(⟨b0_,hu_,s_.from q⟩:∃ k0:Nat,u8 = Value.func (.func 133) #[] #[vP k0]/\St y1 w8 [.cells k0 [vU a0] 28])) rfl fun s2 g2 R1 ⟨k0,k1,z0⟩=>?_
 subst k1
 have P1:=cT q0 z0
 refine Aa<|Av<|MX.rangeP (lb:=[vP k0]) rfl (bF q0 z0) rfl (bd 133) func133 rfl rfl rfl fun y2 x0 A0 v1 F1 J0 Q1 x1 V0 V1=>Av ?_
 obtain ⟨Z1,c1,X0⟩:=ar h
 refine MX.lo (α:=UInt64 × Int) (fun ⟨b0,j0⟩=>[(0,.func (.yield x0) #[] #[]),(1,vP k0)]) (fun ⟨b0,j0⟩=>[.obj x0 (lpO v1 .ready none),.obj A0 (.deferred (some [])),.cells k0 [vU b0] 28,.cells B0 [vI j0] 3]) (fun ⟨b0,j0⟩=>(b0,j0)) (a0,0) c1 J0 ?_
 rintro B1 ⟨b0,j0⟩ z2 D0 g0 K0 h
 unfold ak_l1 at h
 try dsimp only at h
 refine Aj<|Ac<|AS rfl ((g0.memA .t2) 0 _ rfl)<|Ab (FV.neqU (a:=b0) (b:=(0:UInt64)) rfl rfl)<|Aa<|MX.ifn rfl h (fun C0 h=>?_) (fun C0 h=>?_)
 refine Ba rfl ?_
 have h:=X0 _ h
 try dsimp only at h
 refine MX.fin rfl<|Au (u:=.tuple #[]) V0 func133 rfl .nil rfl<|MX.endRange0 g0 .hd (by intro h9; cases h9) fun j2 E0 H1=>?_
 obtain ⟨u0,I1⟩:=AQ E0 .d1
 refine Aw<|Ac<|AS rfl ((u0.memA .t2) 0 _ rfl)<|AR [vI j0] u0 .t2 (o1 rfl) fun k2 F0 J1=>Aa<|Ao rfl<|RT.take F0 .hd fun p2 G0 K1=>?_
 obtain ⟨v0,M1⟩:=AQ G0 .d1
 refine Au hb0 func96 rfl (.cons (.one rfl rfl ((v0.memA .t1) 0 _ rfl)) .nil) rfl ?_
 cases h
 exact v0.gv
 refine Aq<|Aj<|Av<|Ac<|Ae rfl<|AS rfl ((g0.memA .t2) 0 _ rfl)<|bk h fun t0 u1 h=>AY (vI t0) (bd 134) rfl (e1 rfl) (fun p q=>aA_c n (g0.hL0 hL q) b0 (hG0.keep (g0.ag.trans q)) u1) rfl<|RG.yieldP (fd:=96) (vs:=[vI t0]) .plain rfl (e1 rfl) g0 .hd x1 rfl rfl rfl fun D1 U0 U1=>Ar<|Ah rfl<|Aa<|MX.begin g0 .hd fun q2 p0 M0=>Av<|du 9 fun c0 d0=>Rx 0 768 c0 rfl d0 (AW rfl ((p0.memA .t3) 0 _ rfl))<|Rv 1 c0 rfl d0 (fun _=>Bn 0 rfl)<|Rv 2 c0 rfl d0 (fun _=>Bn 3 rfl)<|Rx 3 992 c0 rfl d0 (AW rfl ((cH (fun j9 v9 h9=>p0.ag.cell0 (m1 j9 v9 h9)) 0) 3 _ rfl))<|Rv 4 c0 rfl d0 (fun _=>Ai rfl)<|bk h fun z1 q1 h=>?_
 obtain ⟨Y0,s1⟩:=aS q1
 obtain ⟨A1,C1,W0,Z0,E1,g1,b1⟩:=Br (AK h1_3 p0) s1
 obtain ⟨b2,c2,d2,rfl,W1,X1,Y1⟩:=fB g1
 refine Rv 5 c0 rfl d0 (fun _=>Bt 6 (t0.toNat) rfl W0 rfl Y0 Z0)<|Rv 6 c0 rfl d0 (fun _=>Bn 1 rfl)<|Rx 7 768 c0 rfl d0 (AW rfl (b1 1 _ rfl))<|bk h fun y0 j1 h=>Rv 8 c0 rfl d0 (fun _=>FV.addc (i:=j0) (j:=z1.fx) rfl rfl j1)<|BB 9 1023 c0 rfl rfl .plain (Az (news:=[vI y0]) p0 .t3 rfl rfl rfl rfl rfl rfl (o1 rfl)) fun u2 H0 P0=>AI (dk c0)<|Aw<|MX.roundEnd U0 H0 .hd fun v2 s0 Q0=>Ab (BC rfl)<|Aa<|Bj rfl<|Aq<|Aw<|Ar<|AS rfl ((s0.memA .t2) 0 _ rfl)<|AS rfl ((s0.memA .t2) 0 _ rfl)<|Ab (FV.subU (a:=b0) (b:=(1:UInt64)) rfl rfl)<|Ab (FV.andU (a:=b0) (b:=b0 - (1:UInt64)) rfl rfl)<|AR [vW ((b0 &&& (b0 - (1:UInt64))).toNat:Int)] s0 .t2 (o1 rfl) fun x2 I0 R0=>Aa<|D0 (b0 &&& (b0 - (1:UInt64)),y0) I0 (Tt K0 (Tt M0 (Tt P0 (Tt Q0 R0)))) h
def ap_l1 (n:Nat) (c0:List UInt64) (g0:Int × Nat -> Option Int):Int × Nat -> Option Int
  | (d0,b0)=>(if b0 < c0.length then (c0[b0]?).bind fun j0=>(au_p n j0).bind fun k0=>g0 (max d0 k0,b0 + 1) else some d0)
def ap_l2 (n:Nat) (c0:List UInt64) (a0:Th) (g0:Int × Nat -> Option Int):Int × Nat -> Option Int
  | (d0,b0)=>(if b0 < c0.length then (c0[b0]?).bind fun j0=>(ak_p n j0 a0).bind fun k0=>g0 (max d0 k0,b0 + 1) else some d0)
def ap_p (n:Nat) (a0:Th) (a1:Ta):Option (Except Te Tb):=
  (ak_p n a1.fm a0).bind fun p0=>(if p0 = 0 then (ai_p n a0 a1).bind fun q0=>Option.bind (au (ap_l1 n q0) n (0,0)) (fun x0=>(au_p n a1.fm).bind fun s0=>(aJ_p n x0 s0).bind fun t0=>exc t0 (fun u0=>some (.ok u0)) (fun c0=>some (.error c0))) else (ai_p n a0 a1).bind fun d0=>Option.bind (au (ap_l2 n d0 a0) n (0,0)) (fun v0=>(ak_p n a1.fm a0).bind fun g0=>(aJ_p n v0 g0).bind fun j0=>exc j0 (fun k0=>some (.ok k0)) (fun b0=>some (.error b0))))
theorem ap_c (n:Nat) {L w} (hL:hl L w) (a0:Th) {v0_3:Value} (h0_3:Rep.R w L [v0_3] a0.fw.fm) {v0_4:Value} (h0_4:Rep.R w L [v0_4] a0.fplan) (a1:Ta) (hG0:Glob 0 tab0 w)  {r:Except Te Tb} (h:ap_p n a0 a1 = some r) :
 Cl 55 #[.agg #[vI a0.fw.fl,vI a0.fw.fh,vI a0.fw.fj,v0_3,v0_4,vI a0.fk],.agg #[.string a1.fp,vI a1.fu,vU a1.fm]] w (aL w (fun (y:Tb) _ u=>u = .agg ((aa y)).toArray) (fun e=>.iface 176 (.agg #[vI e.ft])) r):=by
 unfold ap_p at h
 refine MX.startP func55 rfl rfl rfl fun _ cs0 hb0 hp0=>Ac<|RG.bx (AB w) rfl rfl fun U2 s0 c1 A2=>RG.bx c1 rfl rfl fun V2 t0 d1 B2=>RG.nl zL d1 fun Y2 u0 b0 E2=>Aa<|Ac<|Ab (FV.makeFunc (vs:=[]) (us:=[vP s0]) ah (e1 rfl))<|Ah rfl<|Aa<|Ac<|Ae rfl<|Ah rfl<|Aa<|Aj<|Ac<|Ae rfl<|Bl 2 rfl<|AS rfl ((b0.memA .t1) 2 _ rfl)<|bk h fun P0 V1 h=>RG.callq' (v:=vI P0) (fst:=[]) (cap:=[vP s0]) .plain (bd 96) rfl (e1 rfl) (fun p q=>ak_c n (b0.hL0 hL q) a1.fm a0 (b0.k0 h0_3 q) (b0.k0 h0_4 q) (aq q (b0.memA .t2)) (hG0.keep (b0.ag.trans q)) V1) rfl<|Ab (FV.eql (i:=P0) (j:=0) rfl rfl)<|Aa<|AV rfl h (fun R0 h=>?_) (fun R0 h=>?_)
 refine Ar<|Ah rfl<|Aa<|Ac<|Ah rfl<|Aa<|Aj<|Ac<|Ab (AH rfl (b0.memA .t2))<|Ab (AH rfl (b0.memA .t1))<|bk h fun x0 W1 h=>jE (bd 68) rfl (e2 rfl rfl) (fun p q=>ai_c n (b0.hL hL q) a0 (b0.km h0_3 q) (b0.km h0_4 q) a1 (hG0.keep (b0.ag.trans q)) W1) rfl fun Z2 b2 v1 ⟨M2,hu_,z0⟩=>?_
 subst hu_
 obtain ⟨j1,F2⟩:=b0.agr v1
 have H2:x0.length <= 281474976710656:=AZ z0
 refine Ab (Bd (xs:=x0) underlying75 rfl z0)<|Ae rfl<|Aa<|Av ?_
 obtain ⟨k1,p1⟩:=AQ j1 (.a0 (.a0 .done))
 obtain ⟨J2,I1,C1⟩:=ar h
 refine MX.lo (α:=Int × Nat) (fun ⟨q0,g0⟩=>[(3,vP t0),(4,vP u0),(6,.func (.func 46) #[] #[]),(7,vI q0),(19,b2),(20,vI ((x0.length:Nat):Int)),(21,vI ((g0:Nat):Int))]) (fun ⟨q0,g0⟩=>[.cells u0 zL 42,.cells t0 [.string a1.fp,vI a1.fu,vU a1.fm] 65]) (fun ⟨q0,g0⟩=>(q0,g0)) (0,0) I1 k1 ?_
 rintro p2 ⟨q0,g0⟩ c3 Y0 j0 J0 h
 unfold ap_l1 at h
 try dsimp only at h
 refine Ac<|Ab (Bc (i:=g0) (j:=x0.length) rfl rfl)<|Aa<|Aj<|AV rfl h (fun U0 h=>?_) (fun U0 h=>?_)
 refine Aq<|Aj<|Av<|Ac<|bk h fun M0 P1 h=>?_
 obtain ⟨j2,s2,z1,E1,W0,K1,G1⟩:=Br (Ax z0 (Tt p1 J0)) P1
 have A1:W0 = [vU M0]:=K1; subst A1
 refine Ab (Bt 1 g0 rfl z1 rfl rfl E1)<|AS rfl (G1 0 _ rfl)<|Ah rfl<|Aa<|Ar<|Ae rfl<|Ae rfl<|Ae rfl<|bk h fun E0 X1 h=>AY (vI E0) (bd 46) rfl (e1 rfl) (fun p q=>au_c n (j0.hL0 hL q) M0 X1) rfl<|Ab (FV.max2 (i:=q0) (j:=E0) rfl rfl)<|Ah rfl<|Aa<|Aw<|Ar<|Ab (Bo (i:=g0) (j:=1) rfl rfl (by omega))<|Ae rfl<|Aa<|Y0 (max q0 E0,g0 + 1) j0 J0 h
 refine Ba rfl ?_
 have h:=C1 _ h
 try dsimp only at h
 refine Ac<|Ae rfl<|Ae rfl<|Bl 2 rfl<|AS rfl ((j0.memA .t1) 2 _ rfl)<|bk h fun d2 Y1 h=>AY (vI d2) (bd 46) rfl (e1 rfl) (fun p q=>au_c n (j0.hL0 hL q) a1.fm Y1) rfl<|xk h (fun v2 B0 h=>?_) (fun F0 B0 h=>?_)
 refine Bv (fst:=[]) (cap:=[]) .plain (bd 64) rfl (e2 rfl rfl) (fun p q=>aJ_c n (j0.hL0 hL q)  B0) fun P2 q1=>?_
 obtain ⟨Z0,x2⟩:=j0.agr q1
 cases h
 exact Bk hp0 func55 ⟨Z0.ag,rfl⟩
 refine AY (.agg ((aa F0)).toArray) (bd 64) rfl (e2 rfl rfl) (fun p q=>Be (aJ_c n (j0.hL0 hL q)  B0)) rfl<|AR (aa F0) j0 .hd (aj rfl) fun Q2 G0 y2=>Aa<|Ao rfl<|Au hb0 func55 rfl (.cons (.many (cs:=(aa F0)) rfl rfl (G0.memA .hd)) .nil) rfl ?_
 cases h
 exact ⟨G0.ag,fun p q=>aE rfl⟩
 refine Aq<|Ac<|Ah rfl<|Aa<|Aj<|Ac<|Ab (AH rfl (b0.memA .t2))<|Ab (AH rfl (b0.memA .t1))<|bk h fun v0 Q1 h=>jE (bd 68) rfl (e2 rfl rfl) (fun p q=>ai_c n (b0.hL hL q) a0 (b0.km h0_3 q) (b0.km h0_4 q) a1 (hG0.keep (b0.ag.trans q)) Q1) rfl fun R2 Z1 s1 ⟨K2,hu_,y0⟩=>?_
 subst hu_
 obtain ⟨b1,z2⟩:=b0.agr s1
 have G2:v0.length <= 281474976710656:=AZ y0
 refine Ab (Bd (xs:=v0) underlying75 rfl y0)<|Ae rfl<|Aa<|Av ?_
 obtain ⟨I2,H1,B1⟩:=ar h
 refine MX.lo (α:=Int × Nat) (fun ⟨p0,d0⟩=>[(3,vP t0),(4,vP u0),(6,.func (.func 96) #[] #[vP s0]),(7,vI p0),(19,Z1),(20,vI ((v0.length:Nat):Int)),(21,vI ((d0:Nat):Int))]) (fun ⟨p0,d0⟩=>[.cells u0 zL 42,.cells t0 [.string a1.fp,vI a1.fu,vU a1.fm] 65,.cells s0 [vI a0.fw.fl,vI a0.fw.fh,vI a0.fw.fj,v0_3,v0_4,vI a0.fk] 119]) (fun ⟨p0,d0⟩=>(p0,d0)) (0,0) H1 b1 ?_
 rintro k2 ⟨p0,d0⟩ b3 X0 c0 I0 h
 unfold ap_l2 at h
 try dsimp only at h
 refine Ac<|Ab (Bc (i:=d0) (j:=v0.length) rfl rfl)<|Aa<|Aj<|AV rfl h (fun Q0 h=>?_) (fun Q0 h=>?_)
 refine Aq<|Aj<|Av<|Ac<|bk h fun K0 M1 h=>?_
 obtain ⟨g2,q2,x1,D1,V0,J1,F1⟩:=Br (Ax y0 I0) M1
 have y1:V0 = [vU K0]:=J1; subst y1
 refine Ab (Bt 1 d0 rfl x1 rfl rfl D1)<|AS rfl (F1 0 _ rfl)<|Ah rfl<|Aa<|Ar<|Ae rfl<|Ae rfl<|Ae rfl<|bk h fun C0 R1 h=>RG.callq' (v:=vI C0) (fst:=[]) (cap:=[vP s0]) .plain (bd 96) rfl (e1 rfl) (fun p q=>ak_c n (c0.hL0 hL q) K0 a0 (c0.k0 h0_3 q) (c0.k0 h0_4 q) (aq q (c0.memA .t2)) (hG0.keep (c0.ag.trans q)) R1) rfl<|Ab (FV.max2 (i:=p0) (j:=C0) rfl rfl)<|Ah rfl<|Aa<|Aw<|Ar<|Ab (Bo (i:=d0) (j:=1) rfl rfl (by omega))<|Ae rfl<|Aa<|X0 (max p0 C0,d0 + 1) c0 I0 h
 refine Ba rfl ?_
 have h:=B1 _ h
 try dsimp only at h
 refine Ac<|Ae rfl<|Ae rfl<|Bl 2 rfl<|AS rfl ((c0.memA .t1) 2 _ rfl)<|bk h fun c2 U1 h=>RG.callq' (v:=vI c2) (fst:=[]) (cap:=[vP s0]) .plain (bd 96) rfl (e1 rfl) (fun p q=>ak_c n (c0.hL0 hL q) a1.fm a0 (c0.k0 h0_3 q) (c0.k0 h0_4 q) (aq q (c0.memA .t2)) (hG0.keep (c0.ag.trans q)) U1) rfl<|xk h (fun u2 A0 h=>?_) (fun D0 A0 h=>?_)
 refine Bv (fst:=[]) (cap:=[]) .plain (bd 64) rfl (e2 rfl rfl) (fun p q=>aJ_c n (c0.hL0 hL q)  A0) fun W2 u1=>?_
 obtain ⟨g1,C2⟩:=c0.agr u1
 cases h
 exact Bk hp0 func55 ⟨g1.ag,rfl⟩
 refine AY (.agg ((aa D0)).toArray) (bd 64) rfl (e2 rfl rfl) (fun p q=>Be (aJ_c n (c0.hL0 hL q)  A0)) rfl<|AR (aa D0) c0 .hd (aj rfl) fun X2 H0 D2=>Aa<|Ao rfl<|Au hb0 func55 rfl (.cons (.many (cs:=(aa D0)) rfl rfl (H0.memA .hd)) .nil) rfl ?_
 cases h
 exact ⟨H0.ag,fun p q=>aE rfl⟩
theorem dV {w:World} {L:List Nat} {cs:List Value} {x:Tb} (h:Rep.R w L cs x):cs = [vU x.fN.1,vU x.fN.2.1,vU x.fN.2.2.1,vU x.fN.2.2.2.1,vU x.fN.2.2.2.2.1,vU x.fN.2.2.2.2.2.1,vU x.fN.2.2.2.2.2.2.1,vU x.fN.2.2.2.2.2.2.2,vU x.fD.1,vU x.fD.2.1,vU x.fD.2.2.1,vU x.fD.2.2.2.1,vU x.fD.2.2.2.2.1,vU x.fD.2.2.2.2.2.1,vU x.fD.2.2.2.2.2.2.1,vU x.fD.2.2.2.2.2.2.2]:=by
  obtain ⟨c0,r0,rfl,h0,h⟩:=h
  obtain rfl:=fE (x:=x.fN) h0
  obtain rfl:=fE (x:=x.fD) h
  rfl
theorem bf {w:World} {L:List Nat} (a0:U8) (a1:U8):Rep.R w L [vU a0.1,vU a0.2.1,vU a0.2.2.1,vU a0.2.2.2.1,vU a0.2.2.2.2.1,vU a0.2.2.2.2.2.1,vU a0.2.2.2.2.2.2.1,vU a0.2.2.2.2.2.2.2,vU a1.1,vU a1.2.1,vU a1.2.2.1,vU a1.2.2.2.1,vU a1.2.2.2.2.1,vU a1.2.2.2.2.2.1,vU a1.2.2.2.2.2.2.1,vU a1.2.2.2.2.2.2.2] (⟨a0,a1⟩:Tb):=⟨[vU a0.1,vU a0.2.1,vU a0.2.2.1,vU a0.2.2.2.1,vU a0.2.2.2.2.1,vU a0.2.2.2.2.2.1,vU a0.2.2.2.2.2.2.1,vU a0.2.2.2.2.2.2.2],[vU a1.1,vU a1.2.1,vU a1.2.2.1,vU a1.2.2.2.1,vU a1.2.2.2.2.1,vU a1.2.2.2.2.2.1,vU a1.2.2.2.2.2.2.1,vU a1.2.2.2.2.2.2.2],rfl,ff a0.1 a0.2.1 a0.2.2.1 a0.2.2.2.1 a0.2.2.2.2.1 a0.2.2.2.2.2.1 a0.2.2.2.2.2.2.1 a0.2.2.2.2.2.2.2,ff a1.1 a1.2.1 a1.2.2.1 a1.2.2.2.1 a1.2.2.2.2.1 a1.2.2.2.2.2.1 a1.2.2.2.2.2.2.1 a1.2.2.2.2.2.2.2⟩
theorem dz:ElT Tryz.prog 60 42 (Rep.size Tb) 128 (.agg zM) zL:=⟨underlying60,by kernel_rfl,rfl,rfl,rfl,rfl⟩
def ah_l1 (n:Nat) (a0:List Ta) (a1:Tg) (a2:List Int) (a3:Int) (d0:Nat × (List Tb) -> Option (((List Tb) × Int) ⊕ (List Tb))):Nat × (List Tb) -> Option (((List Tb) × Int) ⊕ (List Tb))
  | (b0,c0)=>(if b0 < a0.length then (a0[b0]?).bind fun j0=>(ap_p n (⟨a1,a2,a3⟩:Th) j0).bind fun p0=>exc p0 (fun q0=>(app c0 ([q0]:List Tb)).bind fun k0=>d0 (b0 + 1,k0)) (fun g0=>some (.inl (([]:List Tb),g0.ft))) else some (.inr c0))
def ah_p (n:Nat) (a0:List Ta) (a1:Tg) (a2:List Int) (a3:Int):Option ((List Tb) × Int):=
  (bj_p n a1 a2 a3).bind fun k0=>(aj_p n k0).bind fun p0=>exc p0 (fun _y64=>(aa_p n ((a2.length:Nat):Int) a0).bind fun g0=>(aj_p n g0).bind fun j0=>exc j0 (fun _y1303=>thn (au (ah_l1 n a0 a1 a2 a3) n (0,([]:List Tb))) (fun d0=>some (d0,(0:Int)))) (fun b0=>some (([]:List Tb),b0.ft))) (fun c0=>some (([]:List Tb),c0.ft))
theorem ah_c (n:Nat) {L w} (hL:hl L w) {a0:List Ta} {v0_0:Value} (h0_0:Rep.R w L [v0_0] a0) (a1:Tg) {v1_3:Value} (h1_3:Rep.R w L [v1_3] a1.fm) {a2:List Int} {v2_0:Value} (h2_0:Rep.R w L [v2_0] a2) {a3:Int} (hG0:Glob 0 tab0 w)  {r:(List Tb) × Int} (h:ah_p n a0 a1 a2 a3 = some r) :
 Cl 19 #[v0_0,.agg #[vI a1.fl,vI a1.fh,vI a1.fj,v1_3],v2_0,vI a3] w (ac w fun w' u=>∃ v0_0:Value,u = .tuple #[v0_0,vI r.2]/\Rep.R w' L [v0_0] r.1):=by
 unfold ah_p at h
 refine AF func19 rfl rfl rfl fun _ cs0 hb0=>Ac<|RG.bx (AB w) rfl rfl fun C5 D0 b1 I4=>Ah rfl<|Ah rfl<|Aa<|Ac<|Ae rfl<|Ab (AH rfl (b1.memA .hd))<|Ae rfl<|Ae rfl<|Bq (fst:=[]) (cap:=[]) (vs:=[v0_0,.agg #[vI a1.fl,vI a1.fh,vI a1.fj,v1_3],v2_0,vI a3,.func (.func 55) #[] #[]]) .plain (bd 54) func54 rfl rfl rfl rfl (e5 rfl rfl rfl rfl rfl) rfl fun C4 Y0 z5=>Ac<|RG.bx b1 rfl (Rep.c1 (AK h0_0 b1)) fun H5 B0 g2 P4=>RG.bx g2 rfl rfl fun I5 s0 G1 W4=>RG.bx G1 rfl (Rep.c1 (AK h2_0 G1)) fun U5 t0 v2 Z4=>RG.bx v2 rfl rfl fun V5 u0 x2 b5=>RG.bx x2 rfl rfl fun c6 v0 E2 j5=>?_
 refine Ah rfl<|Ah rfl<|Aa<|Ac<|Ab (FV.makeFunc (vs:=[]) (us:=[vP s0,vP t0,vP u0,vP B0,vP v0]) ah (e5 rfl rfl rfl rfl rfl))<|Bq (fst:=[]) (cap:=[]) (vs:=[.func (.func 93) #[] #[vP s0,vP t0,vP u0,vP B0,vP v0]]) .plain (bd 92) func92 rfl rfl rfl rfl (e1 rfl) rfl fun E4 Z0 A5=>Ac<|RG.nl [vN] E2 fun d6 j0 F2 k5=>RG.nl [vI 0] F2 fun g6 d0 b0 p5=>Aa<|Ac<|Ab (FV.makeFunc (vs:=[]) (us:=[vP j0,vP d0]) ah (e2 rfl rfl))<|RG.defer (fst:=[]) (cap:=[vP j0,vP d0]) (vs:=[]) rfl .plain rfl ah<|Aa<|Ac<|Ae rfl<|Bq (fst:=[]) (cap:=[vP s0,vP t0,vP u0,vP B0,vP v0]) (vs:=[]) .plain (bd 93) func93 rfl rfl rfl rfl ah rfl fun F4 g3 u1=>Ac<|Ah rfl<|Aa<|Ac<|Ab (AH rfl (b0.memA .t5))<|AS rfl ((b0.memA .t4) 0 _ rfl)<|AS rfl ((b0.memA .t3) 0 _ rfl)<|bk h fun Y3 P3 h=>AY (vI Y3) (bd 95) rfl (e3 rfl rfl rfl) (fun p q=>bj_c n (b0.hL0 hL q) a1 (b0.k0 h1_3 q) (b0.k0 h2_0 q) P3) rfl<|xk h (fun G0 y1 h=>?_) (fun x6 y1 h=>?_)
 refine Bv (fst:=[]) (cap:=[]) .plain (bd 94) rfl (e1 rfl) (fun p q=>aj_c n (b0.hL0 hL q)  y1) fun j6 d3=>?_
 obtain ⟨G2,q5⟩:=b0.agr d3
 refine Bk u1 func93<|PN.callD (vs:=[]) (cap:=[vP j0,vP d0]) (bd 128) func128 rfl rfl rfl fun B4 q3 z3=>Ac<|RG.recover1 .plain q3 rfl<|Ah rfl<|Aa<|Ac<|Ae rfl<|Ab (FV.neqI underlying20 rfl rfl)<|Aa<|Bb rfl<|Ac<|Ae rfl<|Ab (FV.assertT rfl rfl)<|Ae rfl<|Ab (Ag rfl rfl)<|Ab (Ag rfl rfl)<|RG.nl [vI 0] G2 fun k6 s4 H2 s5=>AR [vI G0.ft] H2 .hd (o1 rfl) fun p6 X0 u5=>Ah rfl<|Aa<|Aj<|Ac<|Ae rfl<|Ab (BC rfl)<|Aa<|Bj rfl<|Aq<|Ac<|Ah rfl<|Aa<|du 3 fun z0 B1=>Rv 0 z0 rfl B1 (fun _=>Ai rfl)<|Rv 1 z0 rfl B1 (fun _=>Bn 0 rfl)<|RD.mo (α:=Unit) (fun ()=>[(1,vP d0),(19,vI G0.ft)]) (fun ()=>[.cells d0 [vI 0] 35,.cells j0 [vN] 60,.cells v0 [.func (.func 55) #[] #[]] 116,.cells u0 [vI a3] 3,.cells t0 [v2_0] 53,.cells s0 [vI a1.fl,vI a1.fh,vI a1.fj,v1_3] 58,.cells B0 [v0_0] 30,.cells D0 [vI a1.fl,vI a1.fh,vI a1.fj,v1_3] 58]) X0 1 15 ?_ ?_
 rintro ⟨⟩ q6 X1 G4
 try dsimp only
 refine BB 4 31 z0 rfl rfl .plain (Az (news:=[vI G0.ft]) X1 .hd rfl rfl rfl rfl rfl rfl (o1 rfl)) fun D5 H0 H4=>AI (dk z0)<|MX.fin rfl<|RT.leaveD1 z3 func128 rfl .nil<|Au (u:=.tuple #[vN,vI G0.ft]) Z0 func92 rfl (.cons (.one rfl rfl ((H0.memA .t1) 0 _ rfl)) (.cons (.one rfl rfl ((H0.memA .hd) 0 _ rfl)) .nil)) rfl<|Ab (Ag rfl rfl)<|Ab (Ag rfl rfl)<|Ah rfl<|Ah rfl<|Aa<|Ao rfl<|Au (u:=.tuple #[vN,vI G0.ft]) Y0 func54 rfl (.cons (.tmp rfl) (.cons (.tmp rfl) .nil)) rfl<|Ab (Ag rfl rfl)<|Ab (Ag rfl rfl)<|Ah rfl<|Ah rfl<|Aa<|Ao rfl ?_
 have C3:=BA (α:=Tb) H0 L
 refine Au hb0 func19 rfl (.cons (.tmp rfl) (.cons (.tmp rfl) .nil)) rfl ?_
 cases h
 exact ⟨H0.ag,fun p q=>⟨vN,rfl,H0.kd C3 q⟩⟩
 intro C1
 refine RD.each [2,3] (rk z0) ⟨?_,?_,trivial⟩
 refine RO.val (m' :=7) (sk z0) rfl .plain rfl (AW rfl ((X0.memA .hd) 0 _ rfl))<|BB 3 15 z0 rfl rfl .plain (Az (news:=[vN]) X0 .t2 rfl rfl rfl rfl rfl rfl (o1 rfl)) fun V3 W0 s1=>?_
 obtain ⟨Y1,I2⟩:=AQ W0 .d1
 exact C1 () Y1 (Tt s1 I2)
 refine RO.now (m' :=11) (sk z0) rfl rfl .plain (Az (news:=[vN]) X0 .t2 rfl rfl rfl rfl rfl rfl (o1 rfl)) fun V3 W0 s1=>Rx 2 16 z0 rfl B1 (AW rfl ((W0.memA .hd) 0 _ rfl)) ?_
 obtain ⟨Z1,J2⟩:=AQ W0 .d1
 exact C1 () Z1 (Tt s1 J2)
 refine AY (.tuple #[]) (bd 94) rfl (e1 rfl) (fun p q=>Be (aj_c n (b0.hL0 hL q)  y1)) rfl<|Aa<|Ac<|AS rfl ((b0.memA .t4) 0 _ rfl) ?_
 have M1:=AK h2_0 b0
 have x5:a2.length <= 281474976710656:=AZ M1
 refine Ab (Bd (xs:=a2) underlying53 rfl M1)<|AS rfl ((b0.memA .t6) 0 _ rfl)<|bk h fun X3 M3 h=>AY (vI X3) (bd 13) rfl (e2 rfl rfl) (fun p q=>aa_c n (b0.hL0 hL q) (b0.k0 h0_0 q) M3) rfl<|xk h (fun E0 v1 h=>?_) (fun v6 v1 h=>?_)
 refine Bv (fst:=[]) (cap:=[]) .plain (bd 94) rfl (e1 rfl) (fun p q=>aj_c n (b0.hL0 hL q)  v1) fun E5 b3=>?_
 obtain ⟨b2,J4⟩:=b0.agr b3
 refine Bk u1 func93<|PN.callD (vs:=[]) (cap:=[vP j0,vP d0]) (bd 128) func128 rfl rfl rfl fun u4 j3 u3=>Ac<|RG.recover1 .plain j3 rfl<|Ah rfl<|Aa<|Ac<|Ae rfl<|Ab (FV.neqI underlying20 rfl rfl)<|Aa<|Bb rfl<|Ac<|Ae rfl<|Ab (FV.assertT rfl rfl)<|Ae rfl<|Ab (Ag rfl rfl)<|Ab (Ag rfl rfl)<|RG.nl [vI 0] b2 fun F5 j4 c2 K4=>AR [vI E0.ft] c2 .hd (o1 rfl) fun G5 Q0 M4=>Ah rfl<|Aa<|Aj<|Ac<|Ae rfl<|Ab (BC rfl)<|Aa<|Bj rfl<|Aq<|Ac<|Ah rfl<|Aa<|du 3 fun x0 z1=>Rv 0 x0 rfl z1 (fun _=>Ai rfl)<|Rv 1 x0 rfl z1 (fun _=>Bn 0 rfl)<|RD.mo (α:=Unit) (fun ()=>[(1,vP d0),(19,vI E0.ft)]) (fun ()=>[.cells d0 [vI 0] 35,.cells j0 [vN] 60,.cells v0 [.func (.func 55) #[] #[]] 116,.cells u0 [vI a3] 3,.cells t0 [v2_0] 53,.cells s0 [vI a1.fl,vI a1.fh,vI a1.fj,v1_3] 58,.cells B0 [v0_0] 30,.cells D0 [vI a1.fl,vI a1.fh,vI a1.fj,v1_3] 58]) Q0 1 15 ?_ ?_
 rintro ⟨⟩ s6 j2 Q4
 try dsimp only
 refine BB 4 31 x0 rfl rfl .plain (Az (news:=[vI E0.ft]) j2 .hd rfl rfl rfl rfl rfl rfl (o1 rfl)) fun J5 I0 R4=>AI (dk x0)<|MX.fin rfl<|RT.leaveD1 u3 func128 rfl .nil<|Au (u:=.tuple #[vN,vI E0.ft]) Z0 func92 rfl (.cons (.one rfl rfl ((I0.memA .t1) 0 _ rfl)) (.cons (.one rfl rfl ((I0.memA .hd) 0 _ rfl)) .nil)) rfl<|Ab (Ag rfl rfl)<|Ab (Ag rfl rfl)<|Ah rfl<|Ah rfl<|Aa<|Ao rfl<|Au (u:=.tuple #[vN,vI E0.ft]) Y0 func54 rfl (.cons (.tmp rfl) (.cons (.tmp rfl) .nil)) rfl<|Ab (Ag rfl rfl)<|Ab (Ag rfl rfl)<|Ah rfl<|Ah rfl<|Aa<|Ao rfl ?_
 have D3:=BA (α:=Tb) I0 L
 refine Au hb0 func19 rfl (.cons (.tmp rfl) (.cons (.tmp rfl) .nil)) rfl ?_
 cases h
 exact ⟨I0.ag,fun p q=>⟨vN,rfl,I0.kd D3 q⟩⟩
 intro D1
 refine RD.each [2,3] (rk x0) ⟨?_,?_,trivial⟩
 refine RO.val (m' :=7) (sk x0) rfl .plain rfl (AW rfl ((Q0.memA .hd) 0 _ rfl))<|BB 3 15 x0 rfl rfl .plain (Az (news:=[vN]) Q0 .t2 rfl rfl rfl rfl rfl rfl (o1 rfl)) fun R3 R0 p1=>?_
 obtain ⟨k2,K2⟩:=AQ R0 .d1
 exact D1 () k2 (Tt p1 K2)
 refine RO.now (m' :=11) (sk x0) rfl rfl .plain (Az (news:=[vN]) Q0 .t2 rfl rfl rfl rfl rfl rfl (o1 rfl)) fun R3 R0 p1=>Rx 2 16 x0 rfl z1 (AW rfl ((R0.memA .hd) 0 _ rfl)) ?_
 obtain ⟨p2,M2⟩:=AQ R0 .d1
 exact D1 () p2 (Tt p1 M2)
 refine AY (.tuple #[]) (bd 94) rfl (e1 rfl) (fun p q=>Be (aj_c n (b0.hL0 hL q)  v1)) rfl<|Aa<|Aj<|Ac<|AS rfl ((b0.memA .t6) 0 _ rfl) ?_
 have P1:=AK h0_0 b0
 have y5:a0.length <= 281474976710656:=AZ P1
 refine Ab (Bd (xs:=a0) underlying30 rfl P1)<|Ae rfl<|Aa<|Av ?_
 have g1:=b0.nilRow 42 (Rep.size Tb)
 have U4:=St.nilRowT b0 42 (Rep.size Tb)
 have F1:=g1.nilRow 42 (Rep.size Tb)
 have v5:=AG (cs:=[]) (xs:=([]:List Tb)) F1 L (AJ _ _)
 refine tn h fun B5 B3 K1=>MX.lf (α:=Nat × (List Tb) × Value × (List Value)) (fun ⟨p0,A0,g0,C0⟩=>[(0,vP s0),(1,vP t0),(2,vP u0),(4,vP v0),(5,g0),(18,v0_0),(19,vI ((a0.length:Nat):Int)),(20,vI ((p0:Nat):Int))]) (fun ⟨p0,A0,g0,C0⟩=>[rr w 42 Tb vN (([]:List Tb).length) [],rr w 42 Tb g0 A0.length C0,.cells d0 [vI 0] 35,.cells j0 [vN] 60,.cells v0 [.func (.func 55) #[] #[]] 116,.cells u0 [vI a3] 3,.cells t0 [v2_0] 53,.cells s0 [vI a1.fl,vI a1.fh,vI a1.fj,v1_3] 58,.cells B0 [v0_0] 30,.cells D0 [vI a1.fl,vI a1.fh,vI a1.fj,v1_3] 58]) (fun ⟨p0,A0,g0,C0⟩ R1=>Cells R1 (bl [rr w 42 Tb vN (([]:List Tb).length) [],rr w 42 Tb g0 A0.length C0,.cells d0 [vI 0] 35,.cells j0 [vN] 60,.cells v0 [.func (.func 55) #[] #[]] 116,.cells u0 [vI a3] 3,.cells t0 [v2_0] 53,.cells s0 [vI a1.fl,vI a1.fh,vI a1.fj,v1_3] 58,.cells B0 [v0_0] 30,.cells D0 [vI a1.fl,vI a1.fh,vI a1.fj,v1_3] 58] ++ L) C0 A0) (fun ⟨p0,A0,g0,C0⟩=>(p0,A0)) (0,([]:List Tb),vN,[]) B3 F1 (AX (AG (cs:=[]) (xs:=([]:List Tb)) g1 L (AJ _ _)) (St.nilRowT g1 42 (Rep.size Tb))) ?_
 rintro g4 ⟨p0,A0,g0,C0⟩ R1 W1 J0 P2 I1 h
 unfold ah_l1 at h
 try dsimp only at h
 refine Ac<|Ab (Bc (i:=p0) (j:=a0.length) rfl rfl)<|Aa<|Aj<|AV rfl h (fun U1 h=>?_) (fun U1 h=>?_)
 refine Aq<|Aj<|Av<|Ac<|bk h fun P0 J3 h=>?_
 obtain ⟨Z3,v4,s3,v3,D4,E3,A3⟩:=Br (AK h0_0 J0) J3
 obtain rfl:=cw E3
 refine Ab (Bt 3 p0 rfl s3 rfl rfl v3)<|Ab (AH rfl A3)<|RG.nl [.string ⟨#[]⟩,vI 0,vW 0] J0 fun K5 k4 q2 Q2=>AR [.string P0.fp,vI P0.fu,vU P0.fm] q2 .hd (aj rfl) fun M5 c0 R2=>Aa<|Ar<|Ae rfl<|AS rfl ((c0.memA .t5) 0 _ rfl)<|Ab (AH rfl (c0.memA .t8))<|AS rfl ((c0.memA .t7) 0 _ rfl)<|AS rfl ((c0.memA .t6) 0 _ rfl) ?_
 obtain ⟨b4,x4,H3,_⟩:=Rep.sl (AK h1_3 c0)
 obtain ⟨c4,y4,I3,_⟩:=Rep.sl (AK h2_0 c0)
 refine Ab (AE (vs:=[.agg #[vI a1.fl,vI a1.fh,vI a1.fj,v1_3],v2_0,vI a3]) (u:=.agg #[vI a1.fl,vI a1.fh,vI a1.fj,v1_3,v2_0,vI a3]) (e3 rfl rfl rfl) (fun p=>by rw [H3,I3]; try kernel_rfl))<|Ab (AH rfl (c0.memA .hd))<|xk h (fun F0 x1 h=>?_) (fun q0 x1 h=>?_)
 have h:=av h K1
 refine Bv (fst:=[]) (cap:=[]) .plain (bd 55) rfl (e2 rfl rfl) (fun p q=>ap_c n (c0.hL0 hL q) (⟨a1,a2,a3⟩:Th) (c0.k0 h1_3 q) (c0.k0 h2_0 q) P0 (hG0.keep (c0.ag.trans q)) x1) fun P5 c3=>?_
 obtain ⟨s2,V4⟩:=c0.agr c3
 refine Bk u1 func93<|PN.callD (vs:=[]) (cap:=[vP j0,vP d0]) (bd 128) func128 rfl rfl rfl fun z4 k3 x3=>Ac<|RG.recover1 .plain k3 rfl<|Ah rfl<|Aa<|Ac<|Ae rfl<|Ab (FV.neqI underlying20 rfl rfl)<|Aa<|Bb rfl<|Ac<|Ae rfl<|Ab (FV.assertT rfl rfl)<|Ae rfl<|Ab (Ag rfl rfl)<|Ab (Ag rfl rfl)<|RG.nl [vI 0] s2 fun Q5 p4 u2 X4=>AR [vI F0.ft] u2 .hd (o1 rfl) fun R5 U0 Y4=>Ah rfl<|Aa<|Aj<|Ac<|Ae rfl<|Ab (BC rfl)<|Aa<|Bj rfl<|Aq<|Ac<|Ah rfl<|Aa<|du 3 fun y0 A1=>Rv 0 y0 rfl A1 (fun _=>Ai rfl)<|Rv 1 y0 rfl A1 (fun _=>Bn 0 rfl)<|RD.mo (α:=Unit) (fun ()=>[(1,vP d0),(19,vI F0.ft)]) (fun ()=>[.cells d0 [vI 0] 35,.cells j0 [vN] 60,.cells v0 [.func (.func 55) #[] #[]] 116,.cells u0 [vI a3] 3,.cells t0 [v2_0] 53,.cells s0 [vI a1.fl,vI a1.fh,vI a1.fj,v1_3] 58,.cells B0 [v0_0] 30,.cells D0 [vI a1.fl,vI a1.fh,vI a1.fj,v1_3] 58]) U0 1 15 ?_ ?_
 rintro ⟨⟩ u6 y2 c5
 try dsimp only
 refine BB 4 31 y0 rfl rfl .plain (Az (news:=[vI F0.ft]) y2 .hd rfl rfl rfl rfl rfl rfl (o1 rfl)) fun W5 K0 d5=>AI (dk y0)<|MX.fin rfl<|RT.leaveD1 x3 func128 rfl .nil<|Au (u:=.tuple #[vN,vI F0.ft]) Z0 func92 rfl (.cons (.one rfl rfl ((K0.memA .t1) 0 _ rfl)) (.cons (.one rfl rfl ((K0.memA .hd) 0 _ rfl)) .nil)) rfl<|Ab (Ag rfl rfl)<|Ab (Ag rfl rfl)<|Ah rfl<|Ah rfl<|Aa<|Ao rfl<|Au (u:=.tuple #[vN,vI F0.ft]) Y0 func54 rfl (.cons (.tmp rfl) (.cons (.tmp rfl) .nil)) rfl<|Ab (Ag rfl rfl)<|Ab (Ag rfl rfl)<|Ah rfl<|Ah rfl<|Aa<|Ao rfl ?_
 have F3:=BA (α:=Tb) K0 L
 refine Au hb0 func19 rfl (.cons (.tmp rfl) (.cons (.tmp rfl) .nil)) rfl ?_
 cases h
 exact ⟨K0.ag,fun p q=>⟨vN,rfl,K0.kd F3 q⟩⟩
 intro E1
 refine RD.each [2,3] (rk y0) ⟨?_,?_,trivial⟩
 refine RO.val (m' :=7) (sk y0) rfl .plain rfl (AW rfl ((U0.memA .hd) 0 _ rfl))<|BB 3 15 y0 rfl rfl .plain (Az (news:=[vN]) U0 .t5 rfl rfl rfl rfl rfl rfl (o1 rfl)) fun U3 V0 q1=>?_
 obtain ⟨z2,U2⟩:=AQ V0 .d4
 exact E1 () z2 (Tt q1 U2)
 refine RO.now (m' :=11) (sk y0) rfl rfl .plain (Az (news:=[vN]) U0 .t5 rfl rfl rfl rfl rfl rfl (o1 rfl)) fun U3 V0 q1=>Rx 2 16 y0 rfl A1 (AW rfl ((V0.memA .hd) 0 _ rfl)) ?_
 obtain ⟨A2,V2⟩:=AQ V0 .d4
 exact E1 () A2 (Tt q1 V2)
 refine AY (.agg ((aa q0)).toArray) (bd 55) rfl (e2 rfl rfl) (fun p q=>Be (ap_c n (c0.hL0 hL q) (⟨a1,a2,a3⟩:Th) (c0.k0 h1_3 q) (c0.k0 h2_0 q) P0 (hG0.keep (c0.ag.trans q)) x1)) rfl<|Al .plain rfl (AL (α:=Tb) (xs:=([q0]:List Tb)) (vs:=[.agg ((aa q0)).toArray]) (ds' :=(aa q0)) rfl c0 dz rfl (e1 rfl) (by kernel_rfl) rfl) fun X5 q4 j1 W2=>bk h fun W3 K3 h=>?_
 have Q1:=Tt Q2 (Tt R2 W2)
 refine RG.doesL .plain rfl (DoesL.app (α:=Tb) (ys:=([q0]:List Tb)) K3 j1 (fun _ _=>.t3) dz rfl rfl (AX I1 Q1) (Src.row (α:=Tb) j1 .hd (AG (cs:=(aa q0)) (xs:=(([q0]:List Tb):List Tb)) j1 L (Ak (cs:=(aa q0)) (ds:=[]) (bf q0.fN q0.fD) (AJ _ _))))) fun Q3 Y5 ⟨V1,B2,X2,p3⟩=>Ah rfl<|Aa<|Aw<|Ar<|Ab (Bo (i:=p0) (j:=1) rfl rfl (by omega))<|Ae rfl<|Aa ?_
 obtain ⟨C2,H1⟩:=AQ B2 .d2
 exact W1 (p0 + 1,W3,Q3,V1) C2 (Tt P2 (Tt Q1 (Tt X2 H1))) (AX p3 H1) h
 refine Ba rfl ?_
 have h:=aB h K1
 try dsimp only at h
 refine Ac<|Ae rfl<|Ah rfl<|Aa<|Ao rfl<|Au (u:=g0) g3 func93 rfl (.cons (.tmp rfl) .nil) rfl<|RG.now .plain (Az (news:=[g0]) J0 .t3 rfl rfl rfl (St.c1 (α:=Tb) J0 .t1) rfl rfl (o1 (St.o1 (α:=Tb) J0 .t1))) fun Z5 D2 Y2=>AR [vI 0] D2 .t2 (o1 rfl) fun b6 M0 Z2=>Aa<|Ao rfl<|RT.callD (vs:=[]) (cap:=[vP j0,vP d0]) (bd 128) func128 rfl rfl rfl fun A4 J1 y3=>Ac<|RG.recover0 .plain J1 rfl<|Ah rfl<|Aa<|Ac<|Ae rfl<|Ab (FV.neqI0 underlying20 rfl rfl)<|Aa<|Bj rfl<|Aq<|MX.fin rfl<|RT.leaveD0 J1 y3 func128 rfl .nil<|Au (u:=.tuple #[g0,vI 0]) Z0 func92 rfl (.cons (.one rfl rfl ((M0.memA .t3) 0 _ rfl)) (.cons (.one rfl rfl ((M0.memA .t2) 0 _ rfl)) .nil)) rfl<|Ab (Ag rfl rfl)<|Ab (Ag rfl rfl)<|Ah rfl<|Ah rfl<|Aa<|Ao rfl<|Au (u:=.tuple #[g0,vI 0]) Y0 func54 rfl (.cons (.tmp rfl) (.cons (.tmp rfl) .nil)) rfl<|Ab (Ag rfl rfl)<|Ab (Ag rfl rfl)<|Ah rfl<|Ah rfl<|Aa<|Ao rfl ?_
 have k1:=Bw M0 .t1
 have g5:=Bx M0 .t1
 have G3:=By (α:=Tb) (v:=g0) (xs:=A0) k1 L (Bh (α:=Tb) M0 .t1 (AX I1 (Tt Y2 Z2)) hL)
 refine Au hb0 func19 rfl (.cons (.tmp rfl) (.cons (.tmp rfl) .nil)) rfl ?_
 cases h
 exact ⟨k1.ag,fun p q=>⟨g0,rfl,k1.kd G3 q⟩⟩
def ax_p (n:Nat) (a0:Int) (a1:Int):Option Tb:=
  (bN_p n a0 a1).bind fun b0=>some b0.1
theorem ax_c (n:Nat) {L w} (hL:hl L w) {a0:Int} {a1:Int}  {r:Tb} (h:ax_p n a0 a1 = some r) :
 Cl 20 #[vI a0,vI a1] w (ac w fun _ u=>u = .agg ((aa r)).toArray):=by
 unfold ax_p at h
 refine AF func20 rfl rfl rfl fun _ cs0 hb0=>Ac<|RG.nl zL (AB w) fun x0 p0 c0 s0=>Aa<|Ac<|Ae rfl<|Ae rfl<|bk h fun b0 k0 h=>AY (.tuple #[.agg ((aa b0.1)).toArray,vI b0.2]) (bd 45) rfl (e2 rfl rfl) (fun p q=>bN_c n (c0.hL0 hL q)  k0) rfl<|Ae rfl<|Ab (Ag rfl rfl)<|Ab (Ag rfl rfl)<|RG.nl zL c0 fun y0 q0 j0 t0=>AR (aa b0.1) j0 .hd (aj rfl) fun z0 d0 u0=>Ah rfl<|Aa<|Ac<|Ab (AH rfl (d0.memA .hd))<|AR (aa b0.1) d0 .t1 (aj rfl) fun A0 g0 v0=>Aa<|Ao rfl<|Au hb0 func20 rfl (.cons (.many (cs:=(aa b0.1)) rfl rfl (g0.memA .t1)) .nil) rfl ?_
 cases h
 exact g0.gv
def aM_p (n:Nat) (a0:Tf) (a1:Int):Option (Tb × Int):=
  (if a1 = 0 then (bg_p n a0).bind fun b0=>some (b0.1,b0.2) else some ((⟨(0,0,0,0,0,0,0,0),(0,0,0,0,0,0,0,0)⟩:Tb),a1))
theorem aM_c (n:Nat) {L w} (hL:hl L w) (a0:Tf) {v0_1:Value} (h0_1:Rep.R w L [v0_1] a0.fv.fo) {v0_3:Value} (h0_3:Rep.R w L [v0_3] a0.fq.fo) {a1:Int}  {r:Tb × Int} (h:aM_p n a0 a1 = some r) :
 Cl 56 #[.agg #[.bool a0.fv.fc,v0_1,.bool a0.fq.fc,v0_3],vI a1] w (ac w fun _ u=>u = .tuple #[.agg ((aa r.1)).toArray,vI r.2]):=by
 unfold aM_p at h
 refine AF func56 rfl rfl rfl fun _ cs0 hb0=>Ac<|RG.bx (AB w) rfl rfl fun z0 s0 p0 u0=>RG.nl zL p0 fun A0 t0 b0 v0=>Ah rfl<|Aa<|Aj<|Ac<|Ae rfl<|Ab (FV.neq (i:=a1) (j:=0) rfl rfl)<|Aa<|MX.ifn rfl h (fun j0 h=>?_) (fun j0 h=>?_)
 refine Aq<|Ac<|Ab (AH rfl (b0.memA .t1))<|bk h fun c0 q0 h=>AY (.tuple #[.agg ((aa c0.1)).toArray,vI c0.2]) (bd 98) rfl (e1 rfl) (fun p q=>bg_c n (b0.hL0 hL q) a0 (b0.k0 h0_1 q) (b0.k0 h0_3 q) q0) rfl<|Ab (Ag rfl rfl)<|Ab (Ag rfl rfl)<|AR (aa c0.1) b0 .hd (aj rfl) fun B0 d0 x0=>Ah rfl<|Aa<|Ao rfl<|Au hb0 func56 rfl (.cons (.many (cs:=(aa c0.1)) rfl rfl (d0.memA .hd)) (.cons (.tmp rfl) .nil)) rfl ?_
 cases h
 exact d0.gv
 refine Ac<|Ab (AE (vs:=[]) (u:=.agg zM) ah (fun p=>by kernel_rfl))<|Ae rfl<|AR zL b0 .hd (aj rfl) fun C0 g0 y0=>Ah rfl<|Aa<|Ao rfl<|Au hb0 func56 rfl (.cons (.many (cs:=zL) rfl rfl (g0.memA .hd)) (.cons (.tmp rfl) .nil)) rfl ?_
 cases h
 exact g0.gv
def aH_p (n:Nat) (a0:Tb):Option Tf:=
  (a8_p n a0.fN).bind fun b0=>(a8_p n a0.fD).bind fun c0=>some (⟨b0,c0⟩:Tf)
theorem aH_c (n:Nat) {L w} (hL:hl L w) (a0:Tb)  {r:Tf} (h:aH_p n a0 = some r) :
 Cl 100 #[.agg ((aa a0)).toArray] w (ac w fun w' u=>∃ v0_1 v0_3:Value,u = .agg #[.bool r.fv.fc,v0_1,.bool r.fq.fc,v0_3]/\Rep.R w' L [v0_1] r.fv.fo/\Rep.R w' L [v0_3] r.fq.fo):=by
 unfold aH_p at h
 refine AF func100 rfl rfl rfl fun _ cs0 hb0=>Ac<|RG.bx (AB w) rfl rfl fun X0 J0 z0 Q0=>RG.nl [.bool false,vN,.bool false,vN] z0 fun Y0 K0 j0 R0=>Aa<|Aj<|du 7 fun b0 c0=>Rv 0 b0 rfl c0 (fun _=>Bn 0 rfl)<|Rx 1 228 b0 rfl c0 (Bp (cs:=(ae a0.fN)) rfl rfl (ao (j0.memA .t1) 0 8))<|Rv 3 b0 rfl c0 (fun _=>Bn 8 rfl)<|Rx 4 224 b0 rfl c0 (Bp (cs:=(ae a0.fD)) rfl rfl (ao (j0.memA .t1) 8 8))<|bk h fun p0 F0 h=>Bz 2 31 b0 rfl .plain (bd 126) rfl (e1 rfl) (fun p q=>a8_c n (j0.hL hL q) a0.fN F0) rfl fun Z0 V0 B0 ⟨d0,hu_,y0⟩=>?_
 subst hu_
 obtain ⟨t0,U0⟩:=j0.agr B0
 refine bk h fun q0 G0 h=>Bz 5 63 b0 rfl .plain (bd 126) rfl (e1 rfl) (fun p q=>a8_c n (t0.hL hL q) a0.fD G0) rfl fun b1 W0 C0 ⟨g0,hu_,s0⟩=>?_
 subst hu_
 obtain ⟨A0,u0⟩:=t0.agr C0
 have x0:=Ax y0 u0
 obtain ⟨H0,M0,D0,_⟩:=Rep.sl x0
 obtain ⟨I0,P0,E0,_⟩:=Rep.sl s0
 refine Rv 6 b0 rfl c0 (fun _=>AE (vs:=[.agg #[.bool p0.fc,d0],.agg #[.bool q0.fc,g0]]) (u:=.agg #[.bool p0.fc,d0,.bool q0.fc,g0]) (e2 rfl rfl) (fun p=>by rw [D0,E0]; try kernel_rfl))<|BB 7 255 b0 rfl rfl .plain (Az (news:=[.bool p0.fc,d0,.bool q0.fc,g0]) A0 .hd rfl rfl rfl rfl rfl rfl (o4 rfl (Bf x0) rfl (Bf s0))) fun c1 k0 v0=>AI (dk b0)<|Ao rfl<|Au hb0 func100 rfl (.cons (.many (cs:=[.bool p0.fc,d0,.bool q0.fc,g0]) rfl rfl (k0.memA .hd)) .nil) rfl ?_
 cases h
 exact ⟨k0.ag,fun p q=>⟨d0,g0,rfl,k0.kd (Ax y0 (Tt u0 v0)) q,k0.kd (Ax s0 v0) q⟩⟩
def bs_p (_n:Nat) (a0:Td):Option Int:=
  (if a0.fc = true then some (-1:Int) else (if a0.fo.length = 0 then some (0:Int) else some (1:Int)))
theorem bs_c (n:Nat) {L w} (_hL:hl L w) (a0:Td) {v0_1:Value} (h0_1:Rep.R w L [v0_1] a0.fo)  {r:Int} (h:bs_p n a0 = some r) :
 Cl 171 #[.agg #[.bool a0.fc,v0_1]] w (ac w fun _ u=>u = vI r):=by
 unfold bs_p at h
 refine AF func171 rfl rfl rfl fun _ cs0 hb0=>Ac<|RG.bx (AB w) rfl rfl fun q0 j0 b0 k0=>Ah rfl<|Aa<|Aj<|Av<|Ac<|Bl 0 rfl<|AS rfl ((b0.memA .hd) 0 _ rfl)<|Ah rfl<|Aa<|MX.ifb rfl h (fun d0 h=>?_) (fun d0 h=>?_)
 refine Ac<|Ah rfl<|Aa<|Ao rfl<|AP hb0 func171 rfl rfl ?_
 cases h
 exact b0.gv
 refine Ac<|Bl 1 rfl<|AS rfl ((b0.memA .hd) 1 _ rfl) ?_
 have c0:=AK h0_1 b0
 have p0:a0.fo.length <= 281474976710656:=AZ c0
 refine Ab (Bd (xs:=a0.fo) underlying75 rfl c0)<|Ab (FV.eqlN (i:=a0.fo.length) (j:=0) rfl rfl)<|Ah rfl<|Aa<|AV rfl h (fun g0 h=>?_) (fun g0 h=>?_)
 refine Ac<|Ah rfl<|Aa<|Ao rfl<|AP hb0 func171 rfl rfl ?_
 cases h
 exact b0.gv
 refine Aq<|Aw<|Ac<|Ah rfl<|Aa<|Ao rfl<|AP hb0 func171 rfl rfl ?_
 cases h
 exact b0.gv

def bC_p (n:Nat) (a0:Td) (a1:Td):Option Td:=
  (aW_p n a1).bind fun b0=>(aT_p n a0 b0).bind fun c0=>some c0
theorem bC_c (n:Nat) {L w} (hL:hl L w) (a0:Td) {v0_1:Value} (h0_1:Rep.R w L [v0_1] a0.fo) (a1:Td) {v1_1:Value} (h1_1:Rep.R w L [v1_1] a1.fo)  {r:Td} (h:bC_p n a0 a1 = some r) :
 Cl 175 #[.agg #[.bool a0.fc,v0_1],.agg #[.bool a1.fc,v1_1]] w (ac w fun w' u=>∃ v0_1:Value,u = .agg #[.bool r.fc,v0_1]/\Rep.R w' L [v0_1] r.fo):=by
 unfold bC_p at h
 refine AF func175 rfl rfl rfl fun _ cs0 hb0=>Ac<|RG.bx (AB w) rfl rfl fun R0 D0 s0 G0=>RG.bx s0 rfl rfl fun U0 E0 t0 H0=>RG.nl [.bool false,vN] t0 fun V0 F0 c0 I0=>Aa<|Aj<|du 4 fun b0 p0=>Rx 0 24 b0 rfl p0 (AH rfl (c0.memA .t2))<|Rx 1 28 b0 rfl p0 (AH rfl (c0.memA .t1))<|bk h fun C0 A0 h=>Bz 2 7 b0 rfl .plain (bd 141) rfl (e1 rfl) (fun p q=>aW_c n (c0.hL hL q) a1 (c0.km h1_1 q) A0) rfl fun W0 P0 x0 ⟨M0,hu_,z0⟩=>?_
 subst hu_
 obtain ⟨d0,J0⟩:=c0.agr x0
 refine bk h fun q0 B0 h=>Bz 3 15 b0 rfl .plain (bd 103) rfl (e2 rfl rfl) (fun p q=>aT_c n (d0.hL hL q) a0 (d0.km h0_1 q) C0 (Am z0 q) B0) rfl fun X0 Q0 y0 ⟨j0,hu_,k0⟩=>?_
 subst hu_
 obtain ⟨u0,K0⟩:=d0.agr y0
 refine BB 4 31 b0 rfl rfl .plain (Az (news:=[.bool q0.fc,j0]) u0 .hd rfl rfl rfl rfl rfl rfl (o2 rfl (Bf k0))) fun Y0 g0 v0=>AI (dk b0)<|Ao rfl<|Au hb0 func175 rfl (.cons (.many (cs:=[.bool q0.fc,j0]) rfl rfl (g0.memA .hd)) .nil) rfl ?_
 cases h
 exact ⟨g0.ag,fun p q=>⟨j0,rfl,g0.kd (Ax k0 v0) q⟩⟩
def bK_p (n:Nat) (a0:Td) (a1:Td):Option Int:=
  (bC_p n a0 a1).bind fun b0=>(bs_p n b0).bind fun c0=>some c0
theorem bK_c (n:Nat) {L w} (hL:hl L w) (a0:Td) {v0_1:Value} (h0_1:Rep.R w L [v0_1] a0.fo) (a1:Td) {v1_1:Value} (h1_1:Rep.R w L [v1_1] a1.fo)  {r:Int} (h:bK_p n a0 a1 = some r) :
 Cl 149 #[.agg #[.bool a0.fc,v0_1],.agg #[.bool a1.fc,v1_1]] w (ac w fun _ u=>u = vI r):=by
 unfold bK_p at h
 refine AF func149 rfl rfl rfl fun _ cs0 hb0=>Ac<|RG.bx (AB w) rfl rfl fun B0 t0 d0 v0=>RG.bx d0 rfl rfl fun C0 u0 b0 x0=>Ah rfl<|Aa<|Ac<|Ab (AH rfl (b0.memA .t1))<|Ab (AH rfl (b0.memA .hd))<|bk h fun q0 k0 h=>jE (bd 175) rfl (e2 rfl rfl) (fun p q=>bC_c n (b0.hL hL q) a0 (b0.km h0_1 q) a1 (b0.km h1_1 q) k0) rfl fun D0 A0 g0 ⟨z0,hu_,j0⟩=>?_
 subst hu_
 obtain ⟨c0,y0⟩:=b0.agr g0
 refine bk h fun s0 p0 h=>AY (vI s0) (bd 171) rfl (e1 rfl) (fun p q=>bs_c n (c0.hL0 hL q) q0 (c0.kd j0 q) p0) rfl<|Ah rfl<|Aa<|Ao rfl<|AP hb0 func149 rfl rfl ?_
 cases h
 exact c0.gv
def bT_p (n:Nat) (a0:Int):Option Td:=
  (bM_p n a0).bind fun b0=>(a8_p n b0).bind fun c0=>some c0
theorem bT_c (n:Nat) {L w} (hL:hl L w) {a0:Int}  {r:Td} (h:bT_p n a0 = some r) :
 Cl 170 #[vI a0] w (ac w fun w' u=>∃ v0_1:Value,u = .agg #[.bool r.fc,v0_1]/\Rep.R w' L [v0_1] r.fo):=by
 unfold bT_p at h
 refine AF func170 rfl rfl rfl fun _ cs0 hb0=>Ac<|RG.nl [.bool false,vN] (AB w) fun A0 v0 b0 x0=>Aa<|Ac<|Ae rfl<|bk h fun j0 t0 h=>AY (.agg ((ae j0)).toArray) (bd 88) rfl (e1 rfl) (fun p q=>bM_c n (b0.hL0 hL q)  t0) rfl<|bk h fun k0 u0 h=>jE (bd 126) rfl (e1 rfl) (fun p q=>a8_c n (b0.hL hL q) j0 u0) rfl fun B0 z0 s0 ⟨d0,hu_,g0⟩=>?_
 subst hu_
 obtain ⟨p0,y0⟩:=b0.agr s0
 refine AR [.bool k0.fc,d0] p0 .hd (o2 rfl (Bf g0)) fun C0 c0 q0=>Aa<|Ao rfl<|Au hb0 func170 rfl (.cons (.many (cs:=[.bool k0.fc,d0]) rfl rfl (c0.memA .hd)) .nil) rfl ?_
 cases h
 exact ⟨c0.ag,fun p q=>⟨d0,rfl,c0.kd (Ax g0 q0) q⟩⟩
def bP_p (n:Nat) (a0:Tb):Option Int:=
  (bT_p n (1:Int)).bind fun c0=>(aH_p n a0).bind fun b0=>(bs_p n b0.fq).bind fun d0=>(if d0 <= 0 then some (20:Int) else (aQ_p n b0.fv b0.fq).bind fun g0=>(bK_p n g0 c0).bind fun j0=>(if j0 = 0 then some (0:Int) else some (20:Int)))
theorem bP_c (n:Nat) {L w} (hL:hl L w) (a0:Tb)  {r:Int} (h:bP_p n a0 = some r) :
 Cl 137 #[.agg ((aa a0)).toArray] w (ac w fun _ u=>u = vI r):=by
 unfold bP_p at h
 refine AF func137 rfl rfl rfl fun _ cs0 hb0=>Ac<|RG.bx (AB w) rfl rfl fun y1 g1 t0 p1=>Ah rfl<|Aa<|Ac<|bk h fun B0 W0 h=>jE (bd 170) rfl (e1 rfl) (fun p q=>bT_c n (t0.hL hL q)  W0) rfl fun z1 u1 Q0 ⟨c1,hu_,x0⟩=>?_
 subst hu_
 obtain ⟨G0,q1⟩:=t0.agr Q0
 refine RG.nl [.bool false,vN] G0 fun A1 j1 H0 u0=>AR [.bool B0.fc,c1] H0 .hd (o2 rfl (Bf (Ax x0 u0))) fun B1 p0 K0=>Aa<|Ac<|Ab (AH rfl (p0.memA .t1))<|bk h fun g0 X0 h=>jE (bd 100) rfl (e1 rfl) (fun p q=>aH_c n (p0.hL hL q) a0 X0) rfl fun C1 v1 R0 ⟨A0,s0,hu_,y0,z0⟩=>?_
 subst hu_
 obtain ⟨I0,M0⟩:=p0.agr R0
 refine RG.nl [.bool false,vN,.bool false,vN] I0 fun D1 k1 J0 k0=>AR [.bool g0.fv.fc,A0,.bool g0.fq.fc,s0] J0 .hd (o4 rfl (Bf (Ax y0 k0)) rfl (Bf (Ax z0 k0))) fun E1 d0 q0=>Aa<|Aj<|Aj<|du 14 fun b0 c0=>Rv 0 b0 rfl c0 (fun _=>Bn 2 rfl)<|Rx 1 16380 b0 rfl c0 (Bp (cs:=[.bool g0.fq.fc,s0]) rfl rfl (ao (d0.memA .hd) 2 2))<|bk h fun C0 Y0 h=>?_
 have v0:=Ax z0 (Tt k0 q0)
 refine RD.cq 2 7 16376 (vI C0) b0 rfl c0 (bd 171) rfl (e1 rfl) (fun p q=>bs_c n (d0.hL0 hL q) g0.fq (d0.kd v0 q) Y0) rfl<|Rv 3 b0 rfl c0 (fun _=>FV.leq (i:=C0) (j:=0) rfl rfl)<|Rv 4 b0 rfl c0 (fun _=>Ai rfl)<|RD.ifd (s:=12) rfl h (fun E0 h=>?_) (fun E0 h=>?_)
 refine Ay 8191 1 [(5,13),(6,14),(7,15),(8,16),(9,17),(10,18),(11,19),(12,20)] (F:=[(12,true)]) (U:=[]) b0 c0 (.cons rfl .nil) .nil ?_
 dsimp only [ai,List.map]
 refine Rv 13 b0 rfl c0 (fun _=>Bm rfl rfl)<|AI (dk b0)<|Bb rfl<|Ac<|Ah rfl<|Aa<|Ao rfl<|AP hb0 func137 rfl rfl ?_
 cases h
 exact d0.gv
 refine Bs 5 63 b0 rfl c0 (.yes rfl rfl) (fun _=>Bn 0 rfl) rfl<|RD.val (i:=6) (m' :=127) (W:=14848) (tk b0) rfl c0 (.yes rfl rfl) (Bp (cs:=[.bool g0.fv.fc,A0]) rfl rfl (ao (d0.memA .hd) 0 2)) rfl<|Bs 7 255 b0 rfl c0 (.yes rfl rfl) (fun _=>Bn 2 rfl) rfl<|RD.val (i:=8) (m' :=511) (W:=14848) (tk b0) rfl c0 (.yes rfl rfl) (Bp (cs:=[.bool g0.fq.fc,s0]) rfl rfl (ao (d0.memA .hd) 2 2)) rfl<|RD.val (i:=10) (m' :=1535) (W:=14336) (tk b0) rfl c0 (.yes rfl rfl) (AH rfl (d0.memA .t1)) rfl<|bk h fun d1 Z0 h=>Bz 9 2047 b0 rfl (.yes rfl rfl) (bd 139) rfl (e2 rfl rfl) (fun p q=>aQ_c n (d0.hL hL q) g0.fv (Am (Ax y0 (Tt k0 q0)) q) g0.fq (Am v0 q) Z0) rfl fun F1 x1 U0 ⟨s1,hu_,V0⟩=>?_
 subst hu_
 obtain ⟨j0,P0⟩:=d0.agr U0
 refine bk h fun D0 b1 h=>RD.callq (i:=11) (m' :=4095) (W:=12288) (tk b0) rfl c0 (v:=vI D0) (fst:=[]) (cap:=[]) (.yes rfl rfl) (bd 149) rfl (e2 rfl rfl) (fun p q=>bK_c n (j0.hL0 hL q) d1 (j0.kd V0 q) B0 (j0.kd (Ax x0 (Tt u0 (Tt K0 (Tt M0 (Tt k0 (Tt q0 P0)))))) q) b1) rfl<|Bs 12 8191 b0 rfl c0 (.yes rfl rfl) (fun _=>FV.neq (i:=D0) (j:=0) rfl rfl) rfl<|Rv 13 b0 rfl c0 (fun _=>Ap rfl rfl)<|AI (dk b0)<|MX.ifn rfl h (fun F0 h=>?_) (fun F0 h=>?_)
 refine Aq<|Ac<|Ah rfl<|Aa<|Ao rfl<|AP hb0 func137 rfl rfl ?_
 cases h
 exact j0.gv
 refine Ac<|Ah rfl<|Aa<|Ao rfl<|AP hb0 func137 rfl rfl ?_
 cases h
 exact j0.gv
def bL_p (n:Nat) (a0:Tb):Option Bool:=
  (bP_p n a0).bind fun b0=>some (decide (b0 = 0))
theorem bL_c (n:Nat) {L w} (hL:hl L w) (a0:Tb)  {r:Bool} (h:bL_p n a0 = some r) :
 Cl 136 #[.agg ((aa a0)).toArray] w (ac w fun _ u=>u = .bool r):=by
 unfold bL_p at h
 refine AF func136 rfl rfl rfl fun _ cs0 hb0=>Ac<|RG.bx (AB w) rfl rfl fun k0 g0 b0 j0=>Ah rfl<|Aa<|Ac<|Ab (AH rfl (b0.memA .hd))<|bk h fun c0 d0 h=>AY (vI c0) (bd 137) rfl (e1 rfl) (fun p q=>bP_c n (b0.hL0 hL q) a0 d0) rfl<|Ab (FV.eql (i:=c0) (j:=0) rfl rfl)<|Ah rfl<|Aa<|Ao rfl<|AP hb0 func136 rfl rfl ?_
 cases h
 exact b0.gv
def aR_l1 (n:Nat) (a0:List Tb) (c0:Nat -> Option (Bool ⊕ Unit)):Nat -> Option (Bool ⊕ Unit)
  | b0=>(if b0 < a0.length then (a0[b0]?).bind fun d0=>(bL_p n d0).bind fun g0=>(if g0 = true then c0 (b0 + 1) else some (.inl false)) else some (.inr ()))
def aR_p (n:Nat) (a0:List Tb):Option Bool:=
  thn (au (aR_l1 n a0) n 0) (fun _=>some true)
theorem aR_c (n:Nat) {L w} (hL:hl L w) {a0:List Tb} {v0_0:Value} (h0_0:Rep.R w L [v0_0] a0)  {r:Bool} (h:aR_p n a0 = some r) :
 Cl 99 #[v0_0] w (ac w fun _ u=>u = .bool r):=by
 unfold aR_p at h
 refine AF func99 rfl rfl rfl fun _ cs0 hb0=>Ac<|Ah rfl<|Aa<|Ac<|Ah rfl<|Aa<|Ac<|Ae rfl<|Ae rfl<|Bq (fst:=[]) (cap:=[]) (vs:=[.func (.func 136) #[] #[],v0_0]) .plain (bd 138) func138 rfl rfl rfl rfl (e2 rfl rfl) rfl fun cs2 hb1 hp3=>Ac<|Ah rfl<|Aa<|Aj<|Ac<|Ae rfl ?_
 have hl4:a0.length <= 281474976710656:=AZ h0_0
 refine Ab (Bd (xs:=a0) underlying60 rfl h0_0)<|Ae rfl<|Aa<|Av<|tn h fun P0 C0 g0=>MX.lo (α:=Nat) (fun b0=>[(0,.func (.func 136) #[] #[]),(7,v0_0),(8,vI ((a0.length:Nat):Int)),(9,vI ((b0:Nat):Int))]) (fun b0=>[]) (fun b0=>b0) 0 C0 (AB w) ?_
 rintro I0 b0 U0 q0 d0 u0 h
 unfold aR_l1 at h
 try dsimp only at h
 refine Ac<|Ab (Bc (i:=b0) (j:=a0.length) rfl rfl)<|Aa<|Aj<|AV rfl h (fun k0 h=>?_) (fun k0 h=>?_)
 refine Aq<|Aj<|Av<|Ac<|bk h fun j0 E0 h=>?_
 obtain ⟨H0,K0,z0,A0,M0,D0,B0⟩:=Br (AK h0_0 d0) E0
 obtain rfl:=dV D0
 refine Ab (Bt 16 b0 rfl z0 rfl rfl A0)<|Ab (AH rfl B0)<|RG.nl zL d0 fun Q0 J0 s0 v0=>AR (aa j0) s0 .hd (aj rfl) fun R0 c0 x0=>Aa<|Ac<|Ae rfl<|Ab (AH rfl (c0.memA .hd))<|bk h fun G0 F0 h=>AY (.bool G0) (bd 136) rfl (e1 rfl) (fun p q=>bL_c n (c0.hL0 hL q) j0 F0) rfl<|Ab (BC rfl)<|Aa<|MX.ifnb rfl h (fun p0 h=>?_) (fun p0 h=>?_)
 refine Aq<|Aw<|Ar<|Ab (Bo (i:=b0) (j:=1) rfl rfl (by omega))<|Ae rfl<|Aa ?_
 obtain ⟨t0,y0⟩:=AQ c0 .done
 exact q0 (b0 + 1) t0 (Tt u0 (Tt v0 (Tt x0 y0))) h
 refine Ac<|Ah rfl<|Aa ?_
 have h:=av h g0
 refine Ao rfl<|Au (u:=.bool false) hb1 func138 rfl (.cons (.tmp rfl) .nil) rfl<|Ah rfl<|Aa<|Ao rfl<|AP hb0 func99 rfl rfl ?_
 cases h
 exact c0.gv
 refine Ba rfl ?_
 have h:=aB h g0
 try dsimp only at h
 refine Ac<|Ah rfl<|Aa<|Ao rfl<|Au (u:=.bool true) hb1 func138 rfl (.cons (.tmp rfl) .nil) rfl<|Ah rfl<|Aa<|Ao rfl<|AP hb0 func99 rfl rfl ?_
 cases h
 exact d0.gv
def bD_p (_n:Nat) (a0:UInt64) (a1:UInt64):Option (UInt64 × UInt64):=
  (some (((shrU a0 32) * (a1 &&& (4294967295:UInt64))) + (shrU ((a0 &&& (4294967295:UInt64)) * (a1 &&& (4294967295:UInt64))) 32))).bind fun u1=>(some (shrU ((u1 &&& (4294967295:UInt64)) + ((a0 &&& (4294967295:UInt64)) * (shrU a1 32))) 32)).bind fun u2=>some ((((shrU a0 32) * (shrU a1 32)) + (shrU u1 32)) + u2,a0 * a1)
theorem bD_c (n:Nat) {L w} (_hL:hl L w) (a0:UInt64) (a1:UInt64)  {r:UInt64 × UInt64} (h:bD_p n a0 a1 = some r) :
 Cl 122 #[vU a0,vU a1] w (ac w fun _ u=>u = .tuple #[vU r.1,vU r.2]):=by
 unfold bD_p at h
 have hS0:=AB w
 refine AF func122 rfl rfl rfl fun _ cs0 hb0=>Ac<|Ah rfl<|Ah rfl<|Aa<|Ac<|Ae rfl<|Ab (FV.andU (a:=a0) (b:=(4294967295:UInt64)) rfl rfl)<|Ah rfl<|Aa<|Ac<|Ae rfl<|Ab (FV.shrU (a:=a0) (j:=32) rfl rfl)<|Ah rfl<|Aa<|Ac<|Ae rfl<|Ab (FV.andU (a:=a1) (b:=(4294967295:UInt64)) rfl rfl)<|Ah rfl<|Aa<|Ac<|Ae rfl<|Ab (FV.shrU (a:=a1) (j:=32) rfl rfl)<|Ah rfl<|Aa<|Ac<|Ae rfl<|Ae rfl<|Ab (FV.mulU (a:=a0 &&& (4294967295:UInt64)) (b:=a1 &&& (4294967295:UInt64)) rfl rfl)<|Ah rfl<|Aa<|Ac<|Ae rfl<|Ae rfl<|Ab (FV.mulU (a:=shrU a0 32) (b:=a1 &&& (4294967295:UInt64)) rfl rfl)<|Ae rfl<|Ab (FV.shrU (a:=(a0 &&& (4294967295:UInt64)) * (a1 &&& (4294967295:UInt64))) (j:=32) rfl rfl)<|bk h fun u1 hu1 h=>Ab (FV.as (FV.addU (a:=(shrU a0 32) * (a1 &&& (4294967295:UInt64))) (b:=shrU ((a0 &&& (4294967295:UInt64)) * (a1 &&& (4294967295:UInt64))) 32) rfl rfl) (congrArg (fun z:UInt64=>Value.int .u64 (z.toNat:Int)) (Option.some.inj hu1)))<|Ah rfl<|Aa<|Ac<|Ae rfl<|Ab (FV.andU (a:=u1) (b:=(4294967295:UInt64)) rfl rfl)<|Ah rfl<|Aa<|Ac<|Ae rfl<|Ab (FV.shrU (a:=u1) (j:=32) rfl rfl)<|Ah rfl<|Aa<|Ac<|Ae rfl<|Ae rfl<|Ae rfl ?_
 refine Ab (FV.mulU (a:=a0 &&& (4294967295:UInt64)) (b:=shrU a1 32) rfl rfl)<|Ab (FV.addU (a:=u1 &&& (4294967295:UInt64)) (b:=(a0 &&& (4294967295:UInt64)) * (shrU a1 32)) rfl rfl)<|Ah rfl<|Aa<|Ac<|Ae rfl<|Ae rfl<|Ab (FV.mulU (a:=shrU a0 32) (b:=shrU a1 32) rfl rfl)<|Ae rfl<|Ab (FV.addU (a:=(shrU a0 32) * (shrU a1 32)) (b:=shrU u1 32) rfl rfl)<|Ae rfl<|bk h fun u2 hu2 h=>Ab (FV.as (FV.shrU (a:=(u1 &&& (4294967295:UInt64)) + ((a0 &&& (4294967295:UInt64)) * (shrU a1 32))) (j:=32) rfl rfl) (congrArg (fun z:UInt64=>Value.int .u64 (z.toNat:Int)) (Option.some.inj hu2)))<|Ab (FV.addU (a:=((shrU a0 32) * (shrU a1 32)) + (shrU u1 32)) (b:=u2) rfl rfl)<|Ah rfl<|Aa<|Ac<|Ae rfl<|Ae rfl<|Ab (FV.mulU (a:=a0) (b:=a1) rfl rfl)<|Ah rfl<|Aa<|Ao rfl<|Au hb0 func122 rfl (.cons (.tmp rfl) (.cons (.tmp rfl) .nil)) rfl ?_
 cases h
 exact hS0.gv
def aP_l1 (n:Nat) (a1:List UInt64) (s0:UInt64) (d0:Nat) (q0:UInt64 × Nat × (List UInt64) -> Option ((List UInt64) × UInt64)):UInt64 × Nat × (List UInt64) -> Option ((List UInt64) × UInt64)
  | (g0,b0,c0)=>(if b0 < a1.length then (a1[b0]?).bind fun t0=>(bD_p n s0 t0).bind fun j0=>(c0[d0 + b0]?).bind fun u0=>(add64 u0 j0.2 (0:UInt64)).bind fun k0=>(add64 k0.1 g0 (0:UInt64)).bind fun p0=>(put c0 ((d0 + b0:Nat):Int) p0.1).bind fun v0=>q0 ((j0.1 + k0.2) + p0.2,b0 + 1,v0) else some (c0,g0))
def aP_l2 (n:Nat) (a0:List UInt64) (a1:List UInt64) (g0:Nat × (List UInt64) -> Option (List UInt64)):Nat × (List UInt64) -> Option (List UInt64)
  | (b0,c0)=>(if b0 < a0.length then (a0[b0]?).bind fun k0=>Option.bind (au (aP_l1 n a1 k0 b0) n (0,0,c0)) (fun (d0,j0)=>(d0[b0 + a1.length]?).bind fun _x490=>(put d0 ((b0 + a1.length:Nat):Int) j0).bind fun p0=>g0 (b0 + 1,p0)) else some c0)
def aP_p (n:Nat) (a0:List UInt64) (a1:List UInt64):Option (List UInt64):=
  (mk ((a0.length + a1.length:Nat):Int) (0:UInt64)).bind fun b0=>Option.bind (au (aP_l2 n a0 a1) n (0,b0)) (fun c0=>some c0)
theorem aP_c (n:Nat) {L w} (hL:hl L w) {a0:List UInt64} {v0_0:Value} (h0_0:Rep.R w L [v0_0] a0) {a1:List UInt64} {v1_0:Value} (h1_0:Rep.R w L [v1_0] a1)  {r:List UInt64} (h:aP_p n a0 a1 = some r) :
 Cl 143 #[v0_0,v1_0] w (ac w fun w' u=>∃ v0_0:Value,u = v0_0/\Rep.R w' L [v0_0] r):=by
 unfold aP_p at h
 refine AF func143 rfl rfl rfl fun _ cs0 hb0=>Ac<|Ah rfl<|Aa<|Ac<|Ae rfl ?_
 have hl1:a0.length <= 281474976710656:=AZ h0_0
 refine Ab (Bd (xs:=a0) underlying75 rfl h0_0)<|Ae rfl ?_
 have hl2:a1.length <= 281474976710656:=AZ h1_0
 refine Ab (Bd (xs:=a1) underlying75 rfl h1_0)<|Ab (Bo (i:=a0.length) (j:=a1.length) rfl rfl (by omega))<|bk h fun R0 J0 h=>Al .plain rfl (Does.mk (α:=UInt64) J0 (AB w) bT rfl) fun Q2 j0 z0 I2=>Ah rfl<|Aa<|Aj<|Ac<|Ae rfl<|Ab (Bd (xs:=a0) underlying75 rfl (AK h0_0 z0))<|Ae rfl<|Aa<|Av ?_
 obtain ⟨M2,U1,I1⟩:=ar h
 refine MX.lf (α:=Nat × (List UInt64) × (List Value)) (fun ⟨b0,d0,k0⟩=>[(1,v1_0),(5,(.slice (some ⟨j0,0,none⟩) ((a0.length + a1.length:Nat):Int).toNat ((a0.length + a1.length:Nat):Int).toNat)),(22,v0_0),(23,vI ((a0.length:Nat):Int)),(24,vI ((b0:Nat):Int))]) (fun ⟨b0,d0,k0⟩=>[rr w 28 UInt64 (.slice (some ⟨j0,0,none⟩) ((a0.length + a1.length:Nat):Int).toNat ((a0.length + a1.length:Nat):Int).toNat) d0.length k0]) (fun ⟨b0,d0,k0⟩ K0=>Cells K0 (bl [rr w 28 UInt64 (.slice (some ⟨j0,0,none⟩) ((a0.length + a1.length:Nat):Int).toNat ((a0.length + a1.length:Nat):Int).toNat) d0.length k0] ++ L) k0 d0) (fun ⟨b0,d0,k0⟩=>(b0,d0)) (0,R0,(List.replicate ((a0.length + a1.length:Nat):Int).toNat [vW 0]).flatten) U1 z0 (AG (cs:=(List.replicate ((a0.length + a1.length:Nat):Int).toNat [vW 0]).flatten) (xs:=R0) z0 L (Cells.mk J0 rfl)) ?_
 rintro A2 ⟨b0,d0,k0⟩ K0 q1 t0 x1 F0 h
 unfold aP_l2 at h
 try dsimp only at h
 refine Ac<|Ab (Bc (i:=b0) (j:=a0.length) rfl rfl)<|Aa<|Aj<|AV rfl h (fun Z0 h=>?_) (fun Z0 h=>?_)
 refine Aq<|Aj<|Av<|Ac<|Ae rfl<|bk h fun D0 c2 h=>?_
 obtain ⟨y2,C2,C1,K1,c1,W1,P1⟩:=Br (AK h0_0 t0) c2
 have D1:c1 = [vU D0]:=W1; subst D1
 refine Ab (Bt 1 b0 rfl C1 rfl rfl K1)<|AS rfl (P1 0 _ rfl)<|Ah rfl<|Ah rfl<|Aa<|Ac<|Ah rfl<|Aa<|Aj<|Ac<|Ae rfl<|Ab (Bd (xs:=a1) underlying75 rfl (AK h1_0 t0))<|Ae rfl<|Aa<|Av ?_
 obtain ⟨P2,V1,J1⟩:=ar h
 refine MX.lf (α:=UInt64 × Nat × (List UInt64) × (List Value)) (fun ⟨s0,c0,p0,q0⟩=>[(1,v1_0),(5,(.slice (some ⟨j0,0,none⟩) ((a0.length + a1.length:Nat):Int).toNat ((a0.length + a1.length:Nat):Int).toNat)),(22,v0_0),(23,vI ((a0.length:Nat):Int)),(24,vI ((b0:Nat):Int)),(6,vI ((b0:Nat):Int)),(7,vU D0),(8,vU s0),(29,v1_0),(30,vI ((a1.length:Nat):Int)),(31,vI ((c0:Nat):Int))]) (fun ⟨s0,c0,p0,q0⟩=>[rr w 28 UInt64 (.slice (some ⟨j0,0,none⟩) ((a0.length + a1.length:Nat):Int).toNat ((a0.length + a1.length:Nat):Int).toNat) p0.length q0]) (fun ⟨s0,c0,p0,q0⟩ M0=>Cells M0 (bl [rr w 28 UInt64 (.slice (some ⟨j0,0,none⟩) ((a0.length + a1.length:Nat):Int).toNat ((a0.length + a1.length:Nat):Int).toNat) p0.length q0] ++ L) q0 p0) (fun ⟨s0,c0,p0,q0⟩=>(s0,c0,p0)) (0,0,d0,k0) V1 t0 F0 ?_
 rintro B2 ⟨s0,c0,p0,q0⟩ M0 s1 g0 E0 v0 h
 unfold aP_l1 at h
 try dsimp only at h
 refine Ac<|Ab (Bc (i:=c0) (j:=a1.length) rfl rfl)<|Aa<|Aj<|AV rfl h (fun b1 h=>?_) (fun b1 h=>?_)
 refine Aq<|Aj<|Av<|Ac<|Ae rfl<|bk h fun P0 d2 h=>?_
 obtain ⟨z2,D2,E1,M1,d1,X1,Q1⟩:=Br (AK h1_0 g0) d2
 have F1:d1 = [vU P0]:=X1; subst F1
 refine Ab (Bt 1 c0 rfl E1 rfl rfl M1)<|AS rfl (Q1 0 _ rfl)<|Ah rfl<|Ah rfl<|Aa<|Ac<|Ae rfl<|Ae rfl<|bk h fun u0 q2 h=>AY (.tuple #[vU u0.1,vU u0.2]) (bd 122) rfl (e2 rfl rfl) (fun p q=>bD_c n (g0.hL0 hL q) D0 P0 q2) rfl<|Ae rfl<|Ab (Ag rfl rfl)<|Ab (Ag rfl rfl)<|Ah rfl<|Ah rfl<|Aa<|Ac<|Ae rfl<|Ae rfl<|Ae rfl<|Ab (Bo (i:=b0) (j:=c0) rfl rfl (by omega))<|bk h fun Q0 g2 h=>?_
 obtain ⟨V0,E2,x0,C0,g1,Y1,R1⟩:=St.nth (α:=UInt64) g0 .hd v0 g2
 obtain ⟨X0,F2,G0⟩:=St.nthOwn (α:=UInt64) g0 .hd C0
 obtain rfl:V0 = ⟨X0,0,none⟩:=by rw [G0] at x0; cases x0; rfl
 have G1:g1 = [vU Q0]:=Y1; subst G1
 refine Ab (Bt 1 (b0 + c0) rfl x0 rfl rfl C0)<|AS rfl (R1 0 _ rfl)<|Ae rfl<|bk h fun y0 s2 h=>Ab (FV.add64 (a:=Q0) (b:=u0.2) (c:=(0:UInt64)) func173 rfl rfl rfl rfl rfl rfl rfl s2)<|Ae rfl<|Ab (Ag rfl rfl)<|Ab (Ag rfl rfl)<|Ah rfl<|Ah rfl<|Aa<|Ac<|Ae rfl<|Ae rfl<|bk h fun U0 t2 h=>Ab (FV.add64 (a:=y0.1) (b:=s0) (c:=(0:UInt64)) func173 rfl rfl rfl rfl rfl rfl rfl t2)<|Ae rfl<|Ab (Ag rfl rfl)<|Ab (Ag rfl rfl)<|Ah rfl<|Ah rfl<|Aa<|Ar<|Ae rfl<|Ae rfl<|Ae rfl<|Ab (Bo (i:=b0) (j:=c0) rfl rfl (by omega))<|Ae rfl<|Ae rfl<|Ae rfl<|Ab (FV.addU (a:=u0.1) (b:=y0.2) rfl rfl)<|Ae rfl<|Ab (FV.addU (a:=u0.1 + y0.2) (b:=U0.2) rfl rfl)<|Ab (Bt 1 (b0 + c0) rfl x0 rfl rfl C0)<|bk h fun v2 k2 h=>RG.acts' .plain (Acts.set (α:=UInt64) (i:=b0 + c0) k2 g0 G0 (fun _=>.hd) v0 rfl rfl rfl rfl rfl rfl) fun R2 ⟨j1,u1,y1,A1⟩=>Ah rfl<|Aa<|Aw<|Ar<|Ab (Bo (i:=c0) (j:=1) rfl rfl (by omega))<|Ae rfl<|Aa<|s1 ((u0.1 + y0.2) + U0.2,c0 + 1,v2,j1) u1 (Tt E0 y1) A1 h
 refine Ba rfl ?_
 have h:=J1 _ h
 try dsimp only at h
 refine Ar<|Ae rfl<|Ae rfl<|Ae rfl<|Ab (Bd (xs:=a1) underlying75 rfl (AK h1_0 g0))<|Ab (Bo (i:=b0) (j:=a1.length) rfl rfl (by omega))<|Ae rfl<|bk h fun u2 j2 h=>?_
 obtain ⟨W0,G2,B0,I0,k1,Z1,K2⟩:=St.nth (α:=UInt64) g0 .hd v0 j2
 obtain ⟨Y0,H2,H0⟩:=St.nthOwn (α:=UInt64) g0 .hd I0
 obtain rfl:W0 = ⟨Y0,0,none⟩:=by rw [H0] at B0; cases B0; rfl
 have H1:k1 = [vU u2]:=Z1; subst H1
 refine Ab (Bt 1 (b0 + a1.length) rfl B0 rfl rfl I0)<|bk h fun x2 p2 h=>RG.acts' .plain (Acts.set (α:=UInt64) (i:=b0 + a1.length) p2 g0 H0 (fun _=>.hd) v0 rfl rfl rfl rfl rfl rfl) fun U2 ⟨p1,v1,z1,B1⟩=>Aa<|Aw<|Ar<|Ab (Bo (i:=b0) (j:=1) rfl rfl (by omega))<|Ae rfl<|Aa<|q1 (b0 + 1,x2,p1) v1 (Tt x1 (Tt E0 z1)) B1 h
 refine Ba rfl ?_
 have h:=I1 _ h
 try dsimp only at h
 refine Ac<|Ae rfl<|Ah rfl<|Aa<|Ao rfl ?_
 have A0:=Bw t0 .hd
 have J2:=Bx t0 .hd
 have b2:=By (α:=UInt64) (v:=(.slice (some ⟨j0,0,none⟩) ((a0.length + a1.length:Nat):Int).toNat ((a0.length + a1.length:Nat):Int).toNat)) (xs:=d0) A0 L (Bh (α:=UInt64) t0 .hd F0 hL)
 refine AP hb0 func143 rfl rfl ?_
 cases h
 exact ⟨A0.ag,fun p q=>⟨(.slice (some ⟨j0,0,none⟩) ((a0.length + a1.length:Nat):Int).toNat ((a0.length + a1.length:Nat):Int).toNat),rfl,A0.kd b2 q⟩⟩
def ar_p (n:Nat) (a0:Td) (a1:Td):Option Td:=
  (aP_p n a0.fo a1.fo).bind fun b0=>(am_p n (!(a0.fc == a1.fc)) b0).bind fun c0=>some c0
theorem ar_c (n:Nat) {L w} (hL:hl L w) (a0:Td) {v0_1:Value} (h0_1:Rep.R w L [v0_1] a0.fo) (a1:Td) {v1_1:Value} (h1_1:Rep.R w L [v1_1] a1.fo)  {r:Td} (h:ar_p n a0 a1 = some r) :
 Cl 102 #[.agg #[.bool a0.fc,v0_1],.agg #[.bool a1.fc,v1_1]] w (ac w fun w' u=>∃ v0_1:Value,u = .agg #[.bool r.fc,v0_1]/\Rep.R w' L [v0_1] r.fo):=by
 unfold ar_p at h
 refine AF func102 rfl rfl rfl fun _ cs0 hb0=>Ac<|RG.bx (AB w) rfl rfl fun Q0 C0 s0 F0=>RG.bx s0 rfl rfl fun R0 D0 t0 G0=>RG.nl [.bool false,vN] t0 fun U0 E0 d0 H0=>Aa<|Aj<|du 11 fun b0 c0=>Rv 0 b0 rfl c0 (fun _=>Bn 0 rfl)<|Rx 1 3088 b0 rfl c0 (AW rfl ((d0.memA .t2) 0 _ rfl))<|Rv 2 b0 rfl c0 (fun _=>Bn 0 rfl)<|Rx 3 3088 b0 rfl c0 (AW rfl ((d0.memA .t1) 0 _ rfl))<|Rv 4 b0 rfl c0 (fun _=>FV.neqB (a:=a0.fc) (b:=a1.fc) underlying4 rfl rfl)<|Rv 5 b0 rfl c0 (fun _=>Bn 1 rfl)<|Rx 6 3584 b0 rfl c0 (AW rfl ((d0.memA .t2) 1 _ rfl))<|Rv 7 b0 rfl c0 (fun _=>Bn 1 rfl)<|Rx 8 3584 b0 rfl c0 (AW rfl ((d0.memA .t1) 1 _ rfl))<|bk h fun Y0 A0 h=>Bz 9 1023 b0 rfl .plain (bd 143) rfl (e2 rfl rfl) (fun p q=>aP_c n (d0.hL hL q) (d0.km h0_1 q) (d0.km h1_1 q) A0) rfl fun V0 M0 x0 ⟨K0,hu_,z0⟩=>?_
 subst hu_
 obtain ⟨k0,I0⟩:=d0.agr x0
 refine bk h fun q0 B0 h=>Bz 10 2047 b0 rfl .plain (bd 142) rfl (e2 rfl rfl) (fun p q=>am_c n (k0.hL hL q) (Am z0 q) B0) rfl fun W0 P0 y0 ⟨j0,hu_,p0⟩=>?_
 subst hu_
 obtain ⟨u0,J0⟩:=k0.agr y0
 refine BB 11 4095 b0 rfl rfl .plain (Az (news:=[.bool q0.fc,j0]) u0 .hd rfl rfl rfl rfl rfl rfl (o2 rfl (Bf p0))) fun X0 g0 v0=>AI (dk b0)<|Ao rfl<|Au hb0 func102 rfl (.cons (.many (cs:=[.bool q0.fc,j0]) rfl rfl (g0.memA .hd)) .nil) rfl ?_
 cases h
 exact ⟨g0.ag,fun p q=>⟨j0,rfl,g0.kd (Ax p0 v0) q⟩⟩
def bw_p (n:Nat) (a0:Tf) (a1:Tf):Option Tf:=
  (ar_p n a0.fv a1.fv).bind fun b0=>(ar_p n a0.fq a1.fq).bind fun c0=>(bb_p n b0 c0).bind fun d0=>some d0
theorem bw_c (n:Nat) {L w} (hL:hl L w) (a0:Tf) {v0_1:Value} (h0_1:Rep.R w L [v0_1] a0.fv.fo) {v0_3:Value} (h0_3:Rep.R w L [v0_3] a0.fq.fo) (a1:Tf) {v1_1:Value} (h1_1:Rep.R w L [v1_1] a1.fv.fo) {v1_3:Value} (h1_3:Rep.R w L [v1_3] a1.fq.fo)  {r:Tf} (h:bw_p n a0 a1 = some r) :
 Cl 58 #[.agg #[.bool a0.fv.fc,v0_1,.bool a0.fq.fc,v0_3],.agg #[.bool a1.fv.fc,v1_1,.bool a1.fq.fc,v1_3]] w (ac w fun w' u=>∃ v0_1 v0_3:Value,u = .agg #[.bool r.fv.fc,v0_1,.bool r.fq.fc,v0_3]/\Rep.R w' L [v0_1] r.fv.fo/\Rep.R w' L [v0_3] r.fq.fo):=by
 unfold bw_p at h
 refine AF func58 rfl rfl rfl fun _ cs0 hb0=>Ac<|RG.bx (AB w) rfl rfl fun g1 M0 x0 R0=>RG.bx x0 rfl rfl fun j1 P0 y0 U0=>RG.nl [.bool false,vN,.bool false,vN] y0 fun k1 Q0 c0 V0=>Aa<|Aj<|du 11 fun b0 d0=>Rv 0 b0 rfl d0 (fun _=>Bn 0 rfl)<|Rx 1 3600 b0 rfl d0 (Bp (cs:=[.bool a0.fv.fc,v0_1]) rfl rfl (ao (c0.memA .t2) 0 2))<|Rv 2 b0 rfl d0 (fun _=>Bn 0 rfl)<|Rx 3 3600 b0 rfl d0 (Bp (cs:=[.bool a1.fv.fc,v1_1]) rfl rfl (ao (c0.memA .t1) 0 2))<|Rv 5 b0 rfl d0 (fun _=>Bn 2 rfl)<|Rx 6 3584 b0 rfl d0 (Bp (cs:=[.bool a0.fq.fc,v0_3]) rfl rfl (ao (c0.memA .t2) 2 2))<|Rv 7 b0 rfl d0 (fun _=>Bn 2 rfl)<|Rx 8 3584 b0 rfl d0 (Bp (cs:=[.bool a1.fq.fc,v1_3]) rfl rfl (ao (c0.memA .t1) 2 2))<|bk h fun J0 G0 h=>Bz 4 511 b0 rfl .plain (bd 102) rfl (e2 rfl rfl) (fun p q=>ar_c n (c0.hL hL q) a0.fv (c0.km h0_1 q) a1.fv (c0.km h1_1 q) G0) rfl fun p1 b1 B0 ⟨Y0,hu_,E0⟩=>?_
 subst hu_
 obtain ⟨g0,W0⟩:=c0.agr B0
 refine bk h fun K0 H0 h=>Bz 9 1023 b0 rfl .plain (bd 102) rfl (e2 rfl rfl) (fun p q=>ar_c n (g0.hL hL q) a0.fq (g0.km h0_3 q) a1.fq (g0.km h1_3 q) H0) rfl fun q1 c1 C0 ⟨Z0,hu_,F0⟩=>?_
 subst hu_
 obtain ⟨s0,A0⟩:=g0.agr C0
 refine bk h fun k0 I0 h=>Bz 10 2047 b0 rfl .plain (bd 101) rfl (e2 rfl rfl) (fun p q=>bb_c n (s0.hL hL q) J0 (Am (Ax E0 A0) q) K0 (Am F0 q) I0) rfl fun s1 d1 D0 ⟨p0,q0,hu_,u0,v0⟩=>?_
 subst hu_
 obtain ⟨z0,X0⟩:=s0.agr D0
 refine BB 11 4095 b0 rfl rfl .plain (Az (news:=[.bool k0.fv.fc,p0,.bool k0.fq.fc,q0]) z0 .hd rfl rfl rfl rfl rfl rfl (o4 rfl (Bf u0) rfl (Bf v0))) fun u1 j0 t0=>AI (dk b0)<|Ao rfl<|Au hb0 func58 rfl (.cons (.many (cs:=[.bool k0.fv.fc,p0,.bool k0.fq.fc,q0]) rfl rfl (j0.memA .hd)) .nil) rfl ?_
 cases h
 exact ⟨j0.ag,fun p q=>⟨p0,q0,rfl,j0.kd (Ax u0 t0) q,j0.kd (Ax v0 t0) q⟩⟩
def bU_p (n:Nat) (a0:Tb) (a1:Tb):Option (Tb × Int):=
  (aR_p n ([a0,a1]:List Tb)).bind fun d0=>(if d0 = true then (aH_p n a0).bind fun g0=>(aH_p n a1).bind fun j0=>(bw_p n g0 j0).bind fun k0=>(aM_p n k0 (0:Int)).bind fun c0=>some (c0.1,c0.2) else (aM_p n (⟨(⟨false,([]:List UInt64)⟩:Td),(⟨false,([]:List UInt64)⟩:Td)⟩:Tf) (20:Int)).bind fun b0=>some (b0.1,b0.2))
theorem bU_c (n:Nat) {L w} (hL:hl L w) (a0:Tb) (a1:Tb)  {r:Tb × Int} (h:bU_p n a0 a1 = some r) :
 Cl 21 #[.agg ((aa a0)).toArray,.agg ((aa a1)).toArray] w (ac w fun _ u=>u = .tuple #[.agg ((aa r.1)).toArray,vI r.2]):=by
 unfold bU_p at h
 refine AF func21 rfl rfl rfl fun _ cs0 hb0=>Ac<|RG.bx (AB w) rfl rfl fun j2 s1 I0 F1=>RG.bx I0 rfl rfl fun k2 u1 J0 G1=>RG.nl zL J0 fun p2 v1 q0 H1=>Ah rfl<|Aa<|Ac<|Ab (AH rfl (q0.memA .t2))<|Ab (AH rfl (q0.memA .t1))<|Bq (fst:=[]) (cap:=[]) (vs:=[.agg ((aa a0)).toArray,.agg ((aa a1)).toArray,.func (.func 58) #[] #[]]) .plain (bd 57) func57 rfl rfl rfl rfl (e3 rfl rfl rfl) rfl fun C1 E0 V1=>Ac<|RG.bx q0 rfl rfl fun q2 x1 K0 I1=>RG.bx K0 rfl rfl fun s2 y1 M0 J1=>RG.nl [.bool false,vN,.bool false,vN] M0 fun u2 z1 s0 K1=>Ah rfl<|Aa<|Aj<|Ac<|Ab (AH rfl (s0.memA .t2))<|Ab (AH rfl (s0.memA .t1))<|Al .plain rfl (AL (α:=Tb) (xs:=([a0,a1]:List Tb)) (vs:=[.agg ((aa a0)).toArray,.agg ((aa a1)).toArray]) (ds' :=(aa a0 ++ aa a1)) rfl s0 dz rfl (e2 rfl rfl) (by kernel_rfl) rfl) fun v2 A1 c0 M1=>?_
 refine bk h fun k1 b1 h=>AY (.bool k1) (bd 99) rfl (e1 rfl) (fun p q=>aR_c n (c0.hL0 hL q) (Am (St.lend (α:=Tb) (L:=L) c0 .hd (AG (cs:=(aa a0 ++ aa a1)) (xs:=(([a0,a1]:List Tb):List Tb)) c0 L (Ak (cs:=(aa a0)) (ds:=(aa a1)) (bf a0.fN a0.fD) (Ak (cs:=(aa a1)) (ds:=[]) (bf a1.fN a1.fD) (AJ _ _)))) hL) q) b1) rfl<|Ab (BC rfl)<|Aa<|MX.ifnb rfl h (fun H0 h=>?_) (fun H0 h=>?_)
 refine Aq<|Aj<|du 6 fun b0 t0=>Rv 0 b0 rfl t0 (fun _=>Ai rfl)<|Rx 1 244 b0 rfl t0 (AH rfl (c0.memA .t3))<|Rx 3 240 b0 rfl t0 (AH rfl (c0.memA .t2))<|bk h fun p1 c1 h=>Bz 2 15 b0 rfl .plain (bd 100) rfl (e1 rfl) (fun p q=>aH_c n (c0.hL hL q) a0 c1) rfl fun x2 b2 Q0 ⟨W1,X1,hu_,V0,W0⟩=>?_
 subst hu_
 obtain ⟨y0,P1⟩:=c0.agr Q0
 refine bk h fun q1 d1 h=>Bz 4 31 b0 rfl .plain (bd 100) rfl (e1 rfl) (fun p q=>aH_c n (y0.hL hL q) a1 d1) rfl fun y2 c2 R0 ⟨Y1,Z1,hu_,X0,Y0⟩=>?_
 subst hu_
 obtain ⟨z0,C0⟩:=y0.agr R0
 refine bk h fun d0 g1 h=>Bz 5 63 b0 rfl .plain (bd 58) rfl (e2 rfl rfl) (fun p q=>bw_c n (z0.hL hL q) p1 (Am (Ax V0 C0) q) (Am (Ax W0 C0) q) q1 (Am X0 q) (Am Y0 q) g1) rfl fun z2 d2 U0 ⟨u0,v0,hu_,F0,G0⟩=>?_
 subst hu_
 obtain ⟨P0,Q1⟩:=z0.agr U0
 refine BB 6 127 b0 rfl rfl .plain (Az (news:=[.bool d0.fv.fc,u0,.bool d0.fq.fc,v0]) P0 .t1 rfl rfl rfl rfl rfl rfl (o4 rfl (Bf F0) rfl (Bf G0))) fun A2 g0 D0=>RD.one (i:=7) (rk b0) (RO.val (m' :=255) (sk b0) rfl .plain rfl (AN rfl) ?_)
 refine AI (dk b0)<|Ao rfl<|Au (u:=.tuple #[.agg #[.bool d0.fv.fc,u0,.bool d0.fq.fc,v0],vI 0]) E0 func57 rfl (.cons (.many (cs:=[.bool d0.fv.fc,u0,.bool d0.fq.fc,v0]) rfl rfl (g0.memA .t1)) (.cons (.tmp rfl) .nil)) rfl<|Ab (Ag rfl rfl)<|Ab (Ag rfl rfl)<|bk h fun k0 j1 h=>AY (.tuple #[.agg ((aa k0.1)).toArray,vI k0.2]) (bd 56) rfl (e2 rfl rfl) (fun p q=>aM_c n (g0.hL0 hL q) d0 (g0.kd (Ax F0 D0) q) (g0.kd (Ax G0 D0) q) j1) rfl<|Ab (Ag rfl rfl)<|Ab (Ag rfl rfl)<|AR (aa k0.1) g0 .t4 (aj rfl) fun B2 A0 R1=>Ah rfl<|Aa<|Ao rfl<|Au hb0 func21 rfl (.cons (.many (cs:=(aa k0.1)) rfl rfl (A0.memA .t4)) (.cons (.tmp rfl) .nil)) rfl ?_
 cases h
 exact A0.gv
 refine Ac<|RG.nl [.bool false,vN,.bool false,vN] c0 fun C2 B1 B0 U1=>Aa<|Ac<|Ab (AH rfl (B0.memA .hd))<|AR [.bool false,vN,.bool false,vN] B0 .t2 (aj rfl) fun D2 p0 D1=>Ah rfl<|Aa<|Ao rfl<|Au (u:=.tuple #[.agg #[.bool false,vN,.bool false,vN],vI 20]) E0 func57 rfl (.cons (.many (cs:=[.bool false,vN,.bool false,vN]) rfl rfl (p0.memA .t2)) (.cons (.tmp rfl) .nil)) rfl<|Ab (Ag rfl rfl)<|Ab (Ag rfl rfl)<|bk h fun j0 Z0 h=>AY (.tuple #[.agg ((aa j0.1)).toArray,vI j0.2]) (bd 56) rfl (e2 rfl rfl) (fun p q=>aM_c n (p0.hL0 hL q) (⟨(⟨false,([]:List UInt64)⟩:Td),(⟨false,([]:List UInt64)⟩:Td)⟩:Tf) (Am (Rep.nilSlice _ _) q) (Am (Rep.nilSlice _ _) q) Z0) rfl<|Ab (Ag rfl rfl)<|Ab (Ag rfl rfl)<|AR (aa j0.1) p0 .t5 (aj rfl) fun g2 x0 E1=>Ah rfl<|Aa<|Ao rfl<|Au hb0 func21 rfl (.cons (.many (cs:=(aa j0.1)) rfl rfl (x0.memA .t5)) (.cons (.tmp rfl) .nil)) rfl ?_
 cases h
 exact x0.gv
def bA_p (n:Nat) (a0:Tf) (a1:Tf):Option Tf:=
  (ar_p n a0.fv a1.fq).bind fun b0=>(ar_p n a1.fv a0.fq).bind fun c0=>(aT_p n b0 c0).bind fun d0=>(ar_p n a0.fq a1.fq).bind fun g0=>(bb_p n d0 g0).bind fun j0=>some j0
theorem bA_c (n:Nat) {L w} (hL:hl L w) (a0:Tf) {v0_1:Value} (h0_1:Rep.R w L [v0_1] a0.fv.fo) {v0_3:Value} (h0_3:Rep.R w L [v0_3] a0.fq.fo) (a1:Tf) {v1_1:Value} (h1_1:Rep.R w L [v1_1] a1.fv.fo) {v1_3:Value} (h1_3:Rep.R w L [v1_3] a1.fq.fo)  {r:Tf} (h:bA_p n a0 a1 = some r) :
 Cl 59 #[.agg #[.bool a0.fv.fc,v0_1,.bool a0.fq.fc,v0_3],.agg #[.bool a1.fv.fc,v1_1,.bool a1.fq.fc,v1_3]] w (ac w fun w' u=>∃ v0_1 v0_3:Value,u = .agg #[.bool r.fv.fc,v0_1,.bool r.fq.fc,v0_3]/\Rep.R w' L [v0_1] r.fv.fo/\Rep.R w' L [v0_3] r.fq.fo):=by
 unfold bA_p at h
 refine AF func59 rfl rfl rfl fun _ cs0 hb0=>Ac<|RG.bx (AB w) rfl rfl fun F1 c1 z0 j1=>RG.bx z0 rfl rfl fun G1 d1 A0 k1=>RG.nl [.bool false,vN,.bool false,vN] A0 fun H1 g1 d0 p1=>Aa<|Aj<|du 17 fun b0 c0=>Rv 0 b0 rfl c0 (fun _=>Bn 0 rfl)<|Rx 1 230928 b0 rfl c0 (Bp (cs:=[.bool a0.fv.fc,v0_1]) rfl rfl (ao (d0.memA .t2) 0 2))<|Rv 2 b0 rfl c0 (fun _=>Bn 2 rfl)<|Rx 3 230928 b0 rfl c0 (Bp (cs:=[.bool a1.fq.fc,v1_3]) rfl rfl (ao (d0.memA .t1) 2 2))<|Rv 5 b0 rfl c0 (fun _=>Bn 0 rfl)<|Rx 6 230912 b0 rfl c0 (Bp (cs:=[.bool a1.fv.fc,v1_1]) rfl rfl (ao (d0.memA .t1) 0 2))<|Rv 7 b0 rfl c0 (fun _=>Bn 2 rfl)<|Rx 8 230912 b0 rfl c0 (Bp (cs:=[.bool a0.fq.fc,v0_3]) rfl rfl (ao (d0.memA .t2) 2 2))<|Rv 11 b0 rfl c0 (fun _=>Bn 2 rfl)<|Rx 12 229376 b0 rfl c0 (Bp (cs:=[.bool a0.fq.fc,v0_3]) rfl rfl (ao (d0.memA .t2) 2 2))<|Rv 13 b0 rfl c0 (fun _=>Bn 2 rfl)<|Rx 14 229376 b0 rfl c0 (Bp (cs:=[.bool a1.fq.fc,v1_3]) rfl rfl (ao (d0.memA .t1) 2 2))<|bk h fun X0 Q0 h=>Bz 4 31231 b0 rfl .plain (bd 102) rfl (e2 rfl rfl) (fun p q=>ar_c n (d0.hL hL q) a0.fv (d0.km h0_1 q) a1.fq (d0.km h1_3 q) Q0) rfl fun I1 A1 E0 ⟨v1,hu_,J0⟩=>?_
 subst hu_
 obtain ⟨g0,q1⟩:=d0.agr E0
 refine bk h fun Y0 R0 h=>Bz 9 31743 b0 rfl .plain (bd 102) rfl (e2 rfl rfl) (fun p q=>ar_c n (g0.hL hL q) a1.fv (g0.km h1_1 q) a0.fq (g0.km h0_3 q) R0) rfl fun J1 B1 F0 ⟨x1,hu_,K0⟩=>?_
 subst hu_
 obtain ⟨t0,C0⟩:=g0.agr F0
 refine bk h fun Z0 U0 h=>Bz 10 32767 b0 rfl .plain (bd 103) rfl (e2 rfl rfl) (fun p q=>aT_c n (t0.hL hL q) X0 (Am (Ax J0 C0) q) Y0 (Am K0 q) U0) rfl fun K1 C1 G0 ⟨y1,hu_,M0⟩=>?_
 subst hu_
 obtain ⟨j0,s1⟩:=t0.agr G0
 refine bk h fun b1 V0 h=>Bz 15 65535 b0 rfl .plain (bd 102) rfl (e2 rfl rfl) (fun p q=>ar_c n (j0.hL hL q) a0.fq (j0.km h0_3 q) a1.fq (j0.km h1_3 q) V0) rfl fun M1 D1 H0 ⟨z1,hu_,P0⟩=>?_
 subst hu_
 obtain ⟨u0,D0⟩:=j0.agr H0
 refine bk h fun p0 W0 h=>Bz 16 131071 b0 rfl .plain (bd 101) rfl (e2 rfl rfl) (fun p q=>bb_c n (u0.hL hL q) Z0 (Am (Ax M0 D0) q) b1 (Am P0 q) W0) rfl fun P1 E1 I0 ⟨q0,s0,hu_,x0,y0⟩=>?_
 subst hu_
 obtain ⟨B0,u1⟩:=u0.agr I0
 refine BB 17 262143 b0 rfl rfl .plain (Az (news:=[.bool p0.fv.fc,q0,.bool p0.fq.fc,s0]) B0 .hd rfl rfl rfl rfl rfl rfl (o4 rfl (Bf x0) rfl (Bf y0))) fun Q1 k0 v0=>AI (dk b0)<|Ao rfl<|Au hb0 func59 rfl (.cons (.many (cs:=[.bool p0.fv.fc,q0,.bool p0.fq.fc,s0]) rfl rfl (k0.memA .hd)) .nil) rfl ?_
 cases h
 exact ⟨k0.ag,fun p q=>⟨q0,s0,rfl,k0.kd (Ax x0 v0) q,k0.kd (Ax y0 v0) q⟩⟩
def bV_p (n:Nat) (a0:Tb) (a1:Tb):Option (Tb × Int):=
  (aR_p n ([a0,a1]:List Tb)).bind fun d0=>(if d0 = true then (aH_p n a0).bind fun g0=>(aH_p n a1).bind fun j0=>(bA_p n g0 j0).bind fun k0=>(aM_p n k0 (0:Int)).bind fun c0=>some (c0.1,c0.2) else (aM_p n (⟨(⟨false,([]:List UInt64)⟩:Td),(⟨false,([]:List UInt64)⟩:Td)⟩:Tf) (20:Int)).bind fun b0=>some (b0.1,b0.2))
theorem bV_c (n:Nat) {L w} (hL:hl L w) (a0:Tb) (a1:Tb)  {r:Tb × Int} (h:bV_p n a0 a1 = some r) :
 Cl 22 #[.agg ((aa a0)).toArray,.agg ((aa a1)).toArray] w (ac w fun _ u=>u = .tuple #[.agg ((aa r.1)).toArray,vI r.2]):=by
 unfold bV_p at h
 refine AF func22 rfl rfl rfl fun _ cs0 hb0=>Ac<|RG.bx (AB w) rfl rfl fun j2 s1 I0 F1=>RG.bx I0 rfl rfl fun k2 u1 J0 G1=>RG.nl zL J0 fun p2 v1 q0 H1=>Ah rfl<|Aa<|Ac<|Ab (AH rfl (q0.memA .t2))<|Ab (AH rfl (q0.memA .t1))<|Bq (fst:=[]) (cap:=[]) (vs:=[.agg ((aa a0)).toArray,.agg ((aa a1)).toArray,.func (.func 59) #[] #[]]) .plain (bd 57) func57 rfl rfl rfl rfl (e3 rfl rfl rfl) rfl fun C1 E0 V1=>Ac<|RG.bx q0 rfl rfl fun q2 x1 K0 I1=>RG.bx K0 rfl rfl fun s2 y1 M0 J1=>RG.nl [.bool false,vN,.bool false,vN] M0 fun u2 z1 s0 K1=>Ah rfl<|Aa<|Aj<|Ac<|Ab (AH rfl (s0.memA .t2))<|Ab (AH rfl (s0.memA .t1))<|Al .plain rfl (AL (α:=Tb) (xs:=([a0,a1]:List Tb)) (vs:=[.agg ((aa a0)).toArray,.agg ((aa a1)).toArray]) (ds' :=(aa a0 ++ aa a1)) rfl s0 dz rfl (e2 rfl rfl) (by kernel_rfl) rfl) fun v2 A1 c0 M1=>?_
 refine bk h fun k1 b1 h=>AY (.bool k1) (bd 99) rfl (e1 rfl) (fun p q=>aR_c n (c0.hL0 hL q) (Am (St.lend (α:=Tb) (L:=L) c0 .hd (AG (cs:=(aa a0 ++ aa a1)) (xs:=(([a0,a1]:List Tb):List Tb)) c0 L (Ak (cs:=(aa a0)) (ds:=(aa a1)) (bf a0.fN a0.fD) (Ak (cs:=(aa a1)) (ds:=[]) (bf a1.fN a1.fD) (AJ _ _)))) hL) q) b1) rfl<|Ab (BC rfl)<|Aa<|MX.ifnb rfl h (fun H0 h=>?_) (fun H0 h=>?_)
 refine Aq<|Aj<|du 6 fun b0 t0=>Rv 0 b0 rfl t0 (fun _=>Ai rfl)<|Rx 1 244 b0 rfl t0 (AH rfl (c0.memA .t3))<|Rx 3 240 b0 rfl t0 (AH rfl (c0.memA .t2))<|bk h fun p1 c1 h=>Bz 2 15 b0 rfl .plain (bd 100) rfl (e1 rfl) (fun p q=>aH_c n (c0.hL hL q) a0 c1) rfl fun x2 b2 Q0 ⟨W1,X1,hu_,V0,W0⟩=>?_
 subst hu_
 obtain ⟨y0,P1⟩:=c0.agr Q0
 refine bk h fun q1 d1 h=>Bz 4 31 b0 rfl .plain (bd 100) rfl (e1 rfl) (fun p q=>aH_c n (y0.hL hL q) a1 d1) rfl fun y2 c2 R0 ⟨Y1,Z1,hu_,X0,Y0⟩=>?_
 subst hu_
 obtain ⟨z0,C0⟩:=y0.agr R0
 refine bk h fun d0 g1 h=>Bz 5 63 b0 rfl .plain (bd 59) rfl (e2 rfl rfl) (fun p q=>bA_c n (z0.hL hL q) p1 (Am (Ax V0 C0) q) (Am (Ax W0 C0) q) q1 (Am X0 q) (Am Y0 q) g1) rfl fun z2 d2 U0 ⟨u0,v0,hu_,F0,G0⟩=>?_
 subst hu_
 obtain ⟨P0,Q1⟩:=z0.agr U0
 refine BB 6 127 b0 rfl rfl .plain (Az (news:=[.bool d0.fv.fc,u0,.bool d0.fq.fc,v0]) P0 .t1 rfl rfl rfl rfl rfl rfl (o4 rfl (Bf F0) rfl (Bf G0))) fun A2 g0 D0=>RD.one (i:=7) (rk b0) (RO.val (m' :=255) (sk b0) rfl .plain rfl (AN rfl) ?_)
 refine AI (dk b0)<|Ao rfl<|Au (u:=.tuple #[.agg #[.bool d0.fv.fc,u0,.bool d0.fq.fc,v0],vI 0]) E0 func57 rfl (.cons (.many (cs:=[.bool d0.fv.fc,u0,.bool d0.fq.fc,v0]) rfl rfl (g0.memA .t1)) (.cons (.tmp rfl) .nil)) rfl<|Ab (Ag rfl rfl)<|Ab (Ag rfl rfl)<|bk h fun k0 j1 h=>AY (.tuple #[.agg ((aa k0.1)).toArray,vI k0.2]) (bd 56) rfl (e2 rfl rfl) (fun p q=>aM_c n (g0.hL0 hL q) d0 (g0.kd (Ax F0 D0) q) (g0.kd (Ax G0 D0) q) j1) rfl<|Ab (Ag rfl rfl)<|Ab (Ag rfl rfl)<|AR (aa k0.1) g0 .t4 (aj rfl) fun B2 A0 R1=>Ah rfl<|Aa<|Ao rfl<|Au hb0 func22 rfl (.cons (.many (cs:=(aa k0.1)) rfl rfl (A0.memA .t4)) (.cons (.tmp rfl) .nil)) rfl ?_
 cases h
 exact A0.gv
 refine Ac<|RG.nl [.bool false,vN,.bool false,vN] c0 fun C2 B1 B0 U1=>Aa<|Ac<|Ab (AH rfl (B0.memA .hd))<|AR [.bool false,vN,.bool false,vN] B0 .t2 (aj rfl) fun D2 p0 D1=>Ah rfl<|Aa<|Ao rfl<|Au (u:=.tuple #[.agg #[.bool false,vN,.bool false,vN],vI 20]) E0 func57 rfl (.cons (.many (cs:=[.bool false,vN,.bool false,vN]) rfl rfl (p0.memA .t2)) (.cons (.tmp rfl) .nil)) rfl<|Ab (Ag rfl rfl)<|Ab (Ag rfl rfl)<|bk h fun j0 Z0 h=>AY (.tuple #[.agg ((aa j0.1)).toArray,vI j0.2]) (bd 56) rfl (e2 rfl rfl) (fun p q=>aM_c n (p0.hL0 hL q) (⟨(⟨false,([]:List UInt64)⟩:Td),(⟨false,([]:List UInt64)⟩:Td)⟩:Tf) (Am (Rep.nilSlice _ _) q) (Am (Rep.nilSlice _ _) q) Z0) rfl<|Ab (Ag rfl rfl)<|Ab (Ag rfl rfl)<|AR (aa j0.1) p0 .t5 (aj rfl) fun g2 x0 E1=>Ah rfl<|Aa<|Ao rfl<|Au hb0 func22 rfl (.cons (.many (cs:=(aa j0.1)) rfl rfl (x0.memA .t5)) (.cons (.tmp rfl) .nil)) rfl ?_
 cases h
 exact x0.gv
def aB_p (_n:Nat) (a0:List Tb) (a1:Int):Option (Except Te (List Tb)):=
  (if a1 = 0 then some (.ok a0) else some (.error (⟨a1⟩:Te)))
theorem aB_c (n:Nat) {L w} (_hL:hl L w) {a0:List Tb} {v0_0:Value} (h0_0:Rep.R w L [v0_0] a0) {a1:Int}  {r:Except Te (List Tb)} (h:aB_p n a0 a1 = some r) :
 Cl 62 #[v0_0,vI a1] w (aL w (fun (y:List Tb) w' u=>∃ v0_0:Value,u = v0_0/\Rep.R w' L [v0_0] y) (fun e=>.iface 176 (.agg #[vI e.ft])) r):=by
 unfold aB_p at h
 have hS0:=AB w
 refine MX.startP func62 rfl rfl rfl fun _ cs0 hb0 hp0=>Ac<|Ah rfl<|Aa<|Aj<|Ac<|Ae rfl<|Ab (FV.neq (i:=a1) (j:=0) rfl rfl)<|Aa<|MX.ifn rfl h (fun c1 h=>?_) (fun c1 h=>?_)
 refine Aq<|Ac<|Ae rfl<|Ah rfl<|Aa<|Ao rfl<|AP hb0 func62 rfl rfl ?_
 cases h
 exact ⟨hS0.ag,fun p q=>aE ⟨v0_0,rfl,hS0.kd h0_0 q⟩⟩
 refine Ar<|Ae rfl<|Ab (AE (vs:=[vI a1]) (u:=.agg #[vI a1]) (e1 rfl) (fun p=>by kernel_rfl))<|Ab (FV.makeInterface rfl rfl)<|RG.panic .plain rfl ?_
 cases h
 exact Bk hp0 func62 ⟨hS0.ag,rfl⟩
def bE_p (n:Nat) (a0:Bool) (a1:Int):Option (Except Te Unit):=
  (if a0 = true then (aj_p n a1).bind fun y2=>exc y2 (fun _y11=>some (.ok ())) (fun b0=>some (.error b0)) else some (.ok ()))
theorem bE_c (n:Nat) {L w} (hL:hl L w) {a0:Bool} {a1:Int}  {r:Except Te Unit} (h:bE_p n a0 a1 = some r) :
 Cl 63 #[.bool a0,vI a1] w (aL w (fun (_y:Unit) _ u=>u = .tuple #[]) (fun e=>.iface 176 (.agg #[vI e.ft])) r):=by
 unfold bE_p at h
 have hS0:=AB w
 refine MX.startP func63 rfl rfl rfl fun _ cs0 hb0 hp0=>Ac<|Ae rfl<|Aa<|MX.ifb rfl h (fun c1 h=>?_) (fun c1 h=>?_)
 refine Ar<|Ae rfl<|xk h (fun d0 hy2 h=>?_) (fun k0 hy2 h=>?_)
 refine Bv (fst:=[]) (cap:=[]) .plain (bd 94) rfl (e1 rfl) (fun p q=>aj_c n (hS0.hL0 hL q)  hy2) fun j0 c0=>?_
 obtain ⟨b0,g0⟩:=hS0.agr c0
 cases h
 exact Bk hp0 func63 ⟨b0.ag,rfl⟩
 refine AY (.tuple #[]) (bd 94) rfl (e1 rfl) (fun p q=>Be (aj_c n (hS0.hL0 hL q)  hy2)) rfl<|Aa<|MX.fin rfl<|Au hb0 func63 rfl .nil rfl ?_
 cases h
 exact ⟨hS0.ag,fun p q=>aE rfl⟩
 refine Aq<|MX.fin rfl<|Au hb0 func63 rfl .nil rfl ?_
 cases h
 exact ⟨hS0.ag,fun p q=>aE rfl⟩
def bh_p (n:Nat) (a0:Tf) (a1:Tf):Option Tf:=
  (ar_p n a0.fv a1.fq).bind fun b0=>(ar_p n a0.fq a1.fv).bind fun c0=>(bb_p n b0 c0).bind fun d0=>some d0
theorem bh_c (n:Nat) {L w} (hL:hl L w) (a0:Tf) {v0_1:Value} (h0_1:Rep.R w L [v0_1] a0.fv.fo) {v0_3:Value} (h0_3:Rep.R w L [v0_3] a0.fq.fo) (a1:Tf) {v1_1:Value} (h1_1:Rep.R w L [v1_1] a1.fv.fo) {v1_3:Value} (h1_3:Rep.R w L [v1_3] a1.fq.fo)  {r:Tf} (h:bh_p n a0 a1 = some r) :
 Cl 105 #[.agg #[.bool a0.fv.fc,v0_1,.bool a0.fq.fc,v0_3],.agg #[.bool a1.fv.fc,v1_1,.bool a1.fq.fc,v1_3]] w (ac w fun w' u=>∃ v0_1 v0_3:Value,u = .agg #[.bool r.fv.fc,v0_1,.bool r.fq.fc,v0_3]/\Rep.R w' L [v0_1] r.fv.fo/\Rep.R w' L [v0_3] r.fq.fo):=by
 unfold bh_p at h
 refine AF func105 rfl rfl rfl fun _ cs0 hb0=>Ac<|RG.bx (AB w) rfl rfl fun g1 M0 x0 R0=>RG.bx x0 rfl rfl fun j1 P0 y0 U0=>RG.nl [.bool false,vN,.bool false,vN] y0 fun k1 Q0 c0 V0=>Aa<|Aj<|du 11 fun b0 d0=>Rv 0 b0 rfl d0 (fun _=>Bn 0 rfl)<|Rx 1 3600 b0 rfl d0 (Bp (cs:=[.bool a0.fv.fc,v0_1]) rfl rfl (ao (c0.memA .t2) 0 2))<|Rv 2 b0 rfl d0 (fun _=>Bn 2 rfl)<|Rx 3 3600 b0 rfl d0 (Bp (cs:=[.bool a1.fq.fc,v1_3]) rfl rfl (ao (c0.memA .t1) 2 2))<|Rv 5 b0 rfl d0 (fun _=>Bn 2 rfl)<|Rx 6 3584 b0 rfl d0 (Bp (cs:=[.bool a0.fq.fc,v0_3]) rfl rfl (ao (c0.memA .t2) 2 2))<|Rv 7 b0 rfl d0 (fun _=>Bn 0 rfl)<|Rx 8 3584 b0 rfl d0 (Bp (cs:=[.bool a1.fv.fc,v1_1]) rfl rfl (ao (c0.memA .t1) 0 2))<|bk h fun J0 G0 h=>Bz 4 511 b0 rfl .plain (bd 102) rfl (e2 rfl rfl) (fun p q=>ar_c n (c0.hL hL q) a0.fv (c0.km h0_1 q) a1.fq (c0.km h1_3 q) G0) rfl fun p1 b1 B0 ⟨Y0,hu_,E0⟩=>?_
 subst hu_
 obtain ⟨g0,W0⟩:=c0.agr B0
 refine bk h fun K0 H0 h=>Bz 9 1023 b0 rfl .plain (bd 102) rfl (e2 rfl rfl) (fun p q=>ar_c n (g0.hL hL q) a0.fq (g0.km h0_3 q) a1.fv (g0.km h1_1 q) H0) rfl fun q1 c1 C0 ⟨Z0,hu_,F0⟩=>?_
 subst hu_
 obtain ⟨s0,A0⟩:=g0.agr C0
 refine bk h fun k0 I0 h=>Bz 10 2047 b0 rfl .plain (bd 101) rfl (e2 rfl rfl) (fun p q=>bb_c n (s0.hL hL q) J0 (Am (Ax E0 A0) q) K0 (Am F0 q) I0) rfl fun s1 d1 D0 ⟨p0,q0,hu_,u0,v0⟩=>?_
 subst hu_
 obtain ⟨z0,X0⟩:=s0.agr D0
 refine BB 11 4095 b0 rfl rfl .plain (Az (news:=[.bool k0.fv.fc,p0,.bool k0.fq.fc,q0]) z0 .hd rfl rfl rfl rfl rfl rfl (o4 rfl (Bf u0) rfl (Bf v0))) fun u1 j0 t0=>AI (dk b0)<|Ao rfl<|Au hb0 func105 rfl (.cons (.many (cs:=[.bool k0.fv.fc,p0,.bool k0.fq.fc,q0]) rfl rfl (j0.memA .hd)) .nil) rfl ?_
 cases h
 exact ⟨j0.ag,fun p q=>⟨p0,q0,rfl,j0.kd (Ax u0 t0) q,j0.kd (Ax v0 t0) q⟩⟩
def bW_p (n:Nat) (a0:Tb) (a1:Tb):Option (Tb × Int):=
  (aR_p n ([a0,a1]:List Tb)).bind fun s0=>(if s0 = true then (if a1.fN = (0,0,0,0,0,0,0,0) then some ((⟨(0,0,0,0,0,0,0,0),(0,0,0,0,0,0,0,0)⟩:Tb),(7:Int)) else (aR_p n ([a0,a1]:List Tb)).bind fun t0=>(if t0 = true then (aH_p n a0).bind fun u0=>(aH_p n a1).bind fun v0=>(bh_p n u0 v0).bind fun x0=>(aM_p n x0 (0:Int)).bind fun b0=>some (b0.1,b0.2) else (aM_p n (⟨(⟨false,([]:List UInt64)⟩:Td),(⟨false,([]:List UInt64)⟩:Td)⟩:Tf) (20:Int)).bind fun c0=>some (c0.1,c0.2))) else (aR_p n ([a0,a1]:List Tb)).bind fun j0=>(if j0 = true then (aH_p n a0).bind fun k0=>(aH_p n a1).bind fun p0=>(bh_p n k0 p0).bind fun q0=>(aM_p n q0 (0:Int)).bind fun d0=>some (d0.1,d0.2) else (aM_p n (⟨(⟨false,([]:List UInt64)⟩:Td),(⟨false,([]:List UInt64)⟩:Td)⟩:Tf) (20:Int)).bind fun g0=>some (g0.1,g0.2)))
theorem bW_c (n:Nat) {L w} (hL:hl L w) (a0:Tb) (a1:Tb)  {r:Tb × Int} (h:bW_p n a0 a1 = some r) :
 Cl 66 #[.agg ((aa a0)).toArray,.agg ((aa a1)).toArray] w (ac w fun _ u=>u = .tuple #[.agg ((aa r.1)).toArray,vI r.2]):=by
 unfold bW_p at h
 refine AF func66 rfl rfl rfl fun _ cs0 hb0=>Ac<|RG.bx (AB w) rfl rfl fun t4 K2 z1 q3=>RG.bx z1 rfl rfl fun D4 P2 C1 y3=>RG.nl zL C1 fun K4 R2 B0 D3=>Ah rfl<|Aa<|Aj<|Ac<|Ab (AH rfl (B0.memA .t2))<|Ab (AH rfl (B0.memA .t1))<|Al .plain rfl (AL (α:=Tb) (xs:=([a0,a1]:List Tb)) (vs:=[.agg ((aa a0)).toArray,.agg ((aa a1)).toArray]) (ds' :=(aa a0 ++ aa a1)) rfl B0 dz rfl (e2 rfl rfl) (by kernel_rfl) rfl) fun M4 U2 b0 E3=>bk h fun C2 s2 h=>AY (.bool C2) (bd 99) rfl (e1 rfl) (fun p q=>aR_c n (b0.hL0 hL q) (Am (St.lend (α:=Tb) (L:=L) b0 .hd (AG (cs:=(aa a0 ++ aa a1)) (xs:=(([a0,a1]:List Tb):List Tb)) b0 L (Ak (cs:=(aa a0)) (ds:=(aa a1)) (bf a0.fN a0.fD) (Ak (cs:=(aa a1)) (ds:=[]) (bf a1.fN a1.fD) (AJ _ _)))) hL) q) s2) rfl<|Ae rfl<|RG.ifb (s:=10) rfl h (fun v1 h=>?_) (fun v1 h=>?_)
 refine RG.fg 0 rfl<|AT (Bp (cs:=(ae a1.fN)) rfl rfl (ao (b0.memA .t2) 0 8))<|AT (AE (vs:=[]) (u:=.agg zQ) ah (fun p=>by kernel_rfl))<|AT (FV.eqlV (v:=.agg ((ae a1.fN)).toArray) (u:=.agg zQ) rfl rfl (eA a1.fN (0,0,0,0,0,0,0,0)))<|RG.pt rfl rfl<|Aa<|AV rfl h (fun x1 h=>?_) (fun x1 h=>?_)
 refine Ac<|Ab (AE (vs:=[]) (u:=.agg zM) ah (fun p=>by kernel_rfl))<|AR zL b0 .t1 (aj rfl) fun P4 W0 F3=>Ah rfl<|Aa<|Ao rfl<|Au hb0 func66 rfl (.cons (.many (cs:=zL) rfl rfl (W0.memA .t1)) (.cons (.tmp rfl) .nil)) rfl ?_
 cases h
 exact W0.gv
 refine Aq<|Ac<|Ab (AH rfl (b0.memA .t3))<|Ab (AH rfl (b0.memA .t2))<|Bq (fst:=[]) (cap:=[]) (vs:=[.agg ((aa a0)).toArray,.agg ((aa a1)).toArray,.func (.func 105) #[] #[]]) .plain (bd 57) func57 rfl rfl rfl rfl (e3 rfl rfl rfl) rfl fun b3 j1 Q3=>Ac<|RG.bx b0 rfl rfl fun Q4 V2 E1 G3=>RG.bx E1 rfl rfl fun R4 W2 F1 H3=>RG.nl [.bool false,vN,.bool false,vN] F1 fun U4 X2 C0 I3=>Ah rfl<|Aa<|Aj<|Ac<|Ab (AH rfl (C0.memA .t2))<|Ab (AH rfl (C0.memA .t1))<|Al .plain rfl (AL (α:=Tb) (xs:=([a0,a1]:List Tb)) (vs:=[.agg ((aa a0)).toArray,.agg ((aa a1)).toArray]) (ds' :=(aa a0 ++ aa a1)) rfl C0 dz rfl (e2 rfl rfl) (by kernel_rfl) rfl) fun V4 Y2 j0 J3=>bk h fun D2 u2 h=>AY (.bool D2) (bd 99) rfl (e1 rfl) (fun p q=>aR_c n (j0.hL0 hL q) (Am (St.lend (α:=Tb) (L:=L) j0 .hd (AG (cs:=(aa a0 ++ aa a1)) (xs:=(([a0,a1]:List Tb):List Tb)) j0 L (Ak (cs:=(aa a0)) (ds:=(aa a1)) (bf a0.fN a0.fD) (Ak (cs:=(aa a1)) (ds:=[]) (bf a1.fN a1.fD) (AJ _ _)))) hL) q) u2) rfl<|Ab (BC rfl)<|Aa<|MX.ifnb rfl h (fun y1 h=>?_) (fun y1 h=>?_)
 refine Aq<|Aj<|du 6 fun d0 E0=>Rv 0 d0 rfl E0 (fun _=>Ai rfl)<|Rx 1 244 d0 rfl E0 (AH rfl (j0.memA .t3))<|Rx 3 240 d0 rfl E0 (AH rfl (j0.memA .t2))<|bk h fun E2 v2 h=>Bz 2 15 d0 rfl .plain (bd 100) rfl (e1 rfl) (fun p q=>aH_c n (j0.hL hL q) a0 v2) rfl fun W4 j4 K1 ⟨X3,Y3,hu_,W1,X1⟩=>?_
 subst hu_
 obtain ⟨X0,K3⟩:=j0.agr K1
 refine bk h fun F2 x2 h=>Bz 4 31 d0 rfl .plain (bd 100) rfl (e1 rfl) (fun p q=>aH_c n (X0.hL hL q) a1 x2) rfl fun X4 k4 M1 ⟨Z3,b4,hu_,Y1,Z1⟩=>?_
 subst hu_
 obtain ⟨Y0,c1⟩:=X0.agr M1
 refine bk h fun p0 y2 h=>Bz 5 63 d0 rfl .plain (bd 105) rfl (e2 rfl rfl) (fun p q=>bh_c n (Y0.hL hL q) E2 (Am (Ax W1 c1) q) (Am (Ax X1 c1) q) F2 (Am Y1 q) (Am Z1 q) y2) rfl fun Y4 p4 P1 ⟨H0,I0,hu_,q1,s1⟩=>?_
 subst hu_
 obtain ⟨G1,M3⟩:=Y0.agr P1
 refine BB 6 127 d0 rfl rfl .plain (Az (news:=[.bool p0.fv.fc,H0,.bool p0.fq.fc,I0]) G1 .t1 rfl rfl rfl rfl rfl rfl (o4 rfl (Bf q1) rfl (Bf s1))) fun Z4 s0 d1=>RD.one (i:=7) (rk d0) (RO.val (m' :=255) (sk d0) rfl .plain rfl (AN rfl) ?_)
 refine AI (dk d0)<|Ao rfl<|Au (u:=.tuple #[.agg #[.bool p0.fv.fc,H0,.bool p0.fq.fc,I0],vI 0]) j1 func57 rfl (.cons (.many (cs:=[.bool p0.fv.fc,H0,.bool p0.fq.fc,I0]) rfl rfl (s0.memA .t1)) (.cons (.tmp rfl) .nil)) rfl<|Ab (Ag rfl rfl)<|Ab (Ag rfl rfl)<|bk h fun t0 b2 h=>AY (.tuple #[.agg ((aa t0.1)).toArray,vI t0.2]) (bd 56) rfl (e2 rfl rfl) (fun p q=>aM_c n (s0.hL0 hL q) p0 (s0.kd (Ax q1 d1) q) (s0.kd (Ax s1 d1) q) b2) rfl<|Ab (Ag rfl rfl)<|Ab (Ag rfl rfl)<|AR (aa t0.1) s0 .t5 (aj rfl) fun q4 J0 c3=>Ah rfl<|Aa<|Ao rfl<|Au hb0 func66 rfl (.cons (.many (cs:=(aa t0.1)) rfl rfl (J0.memA .t5)) (.cons (.tmp rfl) .nil)) rfl ?_
 cases h
 exact J0.gv
 refine Ac<|RG.nl [.bool false,vN,.bool false,vN] j0 fun s4 G2 K0 d3=>Aa<|Ac<|Ab (AH rfl (K0.memA .hd))<|AR [.bool false,vN,.bool false,vN] K0 .t2 (aj rfl) fun u4 y0 g3=>Ah rfl<|Aa<|Ao rfl<|Au (u:=.tuple #[.agg #[.bool false,vN,.bool false,vN],vI 20]) j1 func57 rfl (.cons (.many (cs:=[.bool false,vN,.bool false,vN]) rfl rfl (y0.memA .t2)) (.cons (.tmp rfl) .nil)) rfl<|Ab (Ag rfl rfl)<|Ab (Ag rfl rfl)<|bk h fun u0 c2 h=>AY (.tuple #[.agg ((aa u0.1)).toArray,vI u0.2]) (bd 56) rfl (e2 rfl rfl) (fun p q=>aM_c n (y0.hL0 hL q) (⟨(⟨false,([]:List UInt64)⟩:Td),(⟨false,([]:List UInt64)⟩:Td)⟩:Tf) (Am (Rep.nilSlice _ _) q) (Am (Rep.nilSlice _ _) q) c2) rfl<|Ab (Ag rfl rfl)<|Ab (Ag rfl rfl)<|AR (aa u0.1) y0 .t6 (aj rfl) fun v4 M0 j3=>Ah rfl<|Aa<|Ao rfl<|Au hb0 func66 rfl (.cons (.many (cs:=(aa u0.1)) rfl rfl (M0.memA .t6)) (.cons (.tmp rfl) .nil)) rfl ?_
 cases h
 exact M0.gv
 refine AC<|AC<|AC<|AC<|Bu rfl rfl<|Aa<|Bj rfl<|Aq<|Ac<|Ab (AH rfl (b0.memA .t3))<|Ab (AH rfl (b0.memA .t2))<|Bq (fst:=[]) (cap:=[]) (vs:=[.agg ((aa a0)).toArray,.agg ((aa a1)).toArray,.func (.func 105) #[] #[]]) .plain (bd 57) func57 rfl rfl rfl rfl (e3 rfl rfl rfl) rfl fun Z2 g1 P3=>Ac<|RG.bx b0 rfl rfl fun x4 H2 A1 k3=>RG.bx A1 rfl rfl fun y4 I2 B1 p3=>RG.nl [.bool false,vN,.bool false,vN] B1 fun z4 J2 z0 s3=>Ah rfl<|Aa<|Aj<|Ac<|Ab (AH rfl (z0.memA .t2))<|Ab (AH rfl (z0.memA .t1))<|Al .plain rfl (AL (α:=Tb) (xs:=([a0,a1]:List Tb)) (vs:=[.agg ((aa a0)).toArray,.agg ((aa a1)).toArray]) (ds' :=(aa a0 ++ aa a1)) rfl z0 dz rfl (e2 rfl rfl) (by kernel_rfl) rfl) fun A4 M2 g0 u3=>bk h fun z2 d2 h=>AY (.bool z2) (bd 99) rfl (e1 rfl) (fun p q=>aR_c n (g0.hL0 hL q) (Am (St.lend (α:=Tb) (L:=L) g0 .hd (AG (cs:=(aa a0 ++ aa a1)) (xs:=(([a0,a1]:List Tb):List Tb)) g0 L (Ak (cs:=(aa a0)) (ds:=(aa a1)) (bf a0.fN a0.fD) (Ak (cs:=(aa a1)) (ds:=[]) (bf a1.fN a1.fD) (AJ _ _)))) hL) q) d2) rfl<|Ab (BC rfl)<|Aa<|MX.ifnb rfl h (fun u1 h=>?_) (fun u1 h=>?_)
 refine Aq<|Aj<|du 6 fun c0 D0=>Rv 0 c0 rfl D0 (fun _=>Ai rfl)<|Rx 1 244 c0 rfl D0 (AH rfl (g0.memA .t3))<|Rx 3 240 c0 rfl D0 (AH rfl (g0.memA .t2))<|bk h fun A2 g2 h=>Bz 2 15 c0 rfl .plain (bd 100) rfl (e1 rfl) (fun p q=>aH_c n (g0.hL hL q) a0 g2) rfl fun B4 c4 H1 ⟨R3,U3,hu_,Q1,R1⟩=>?_
 subst hu_
 obtain ⟨P0,v3⟩:=g0.agr H1
 refine bk h fun B2 j2 h=>Bz 4 31 c0 rfl .plain (bd 100) rfl (e1 rfl) (fun p q=>aH_c n (P0.hL hL q) a1 j2) rfl fun C4 d4 I1 ⟨V3,W3,hu_,U1,V1⟩=>?_
 subst hu_
 obtain ⟨Q0,Z0⟩:=P0.agr I1
 refine bk h fun k0 k2 h=>Bz 5 63 c0 rfl .plain (bd 105) rfl (e2 rfl rfl) (fun p q=>bh_c n (Q0.hL hL q) A2 (Am (Ax Q1 Z0) q) (Am (Ax R1 Z0) q) B2 (Am U1 q) (Am V1 q) k2) rfl fun E4 g4 J1 ⟨F0,G0,hu_,k1,p1⟩=>?_
 subst hu_
 obtain ⟨D1,x3⟩:=Q0.agr J1
 refine BB 6 127 c0 rfl rfl .plain (Az (news:=[.bool k0.fv.fc,F0,.bool k0.fq.fc,G0]) D1 .t1 rfl rfl rfl rfl rfl rfl (o4 rfl (Bf k1) rfl (Bf p1))) fun F4 q0 b1=>RD.one (i:=7) (rk c0) (RO.val (m' :=255) (sk c0) rfl .plain rfl (AN rfl) ?_)
 refine AI (dk c0)<|Ao rfl<|Au (u:=.tuple #[.agg #[.bool k0.fv.fc,F0,.bool k0.fq.fc,G0],vI 0]) g1 func57 rfl (.cons (.many (cs:=[.bool k0.fv.fc,F0,.bool k0.fq.fc,G0]) rfl rfl (q0.memA .t1)) (.cons (.tmp rfl) .nil)) rfl<|Ab (Ag rfl rfl)<|Ab (Ag rfl rfl)<|bk h fun v0 p2 h=>AY (.tuple #[.agg ((aa v0.1)).toArray,vI v0.2]) (bd 56) rfl (e2 rfl rfl) (fun p q=>aM_c n (q0.hL0 hL q) k0 (q0.kd (Ax k1 b1) q) (q0.kd (Ax p1 b1) q) p2) rfl<|Ab (Ag rfl rfl)<|Ab (Ag rfl rfl)<|AR (aa v0.1) q0 .t5 (aj rfl) fun G4 R0 z3=>Ah rfl<|Aa<|Ao rfl<|Au hb0 func66 rfl (.cons (.many (cs:=(aa v0.1)) rfl rfl (R0.memA .t5)) (.cons (.tmp rfl) .nil)) rfl ?_
 cases h
 exact R0.gv
 refine Ac<|RG.nl [.bool false,vN,.bool false,vN] g0 fun H4 Q2 U0 A3=>Aa<|Ac<|Ab (AH rfl (U0.memA .hd))<|AR [.bool false,vN,.bool false,vN] U0 .t2 (aj rfl) fun I4 A0 B3=>Ah rfl<|Aa<|Ao rfl<|Au (u:=.tuple #[.agg #[.bool false,vN,.bool false,vN],vI 20]) g1 func57 rfl (.cons (.many (cs:=[.bool false,vN,.bool false,vN]) rfl rfl (A0.memA .t2)) (.cons (.tmp rfl) .nil)) rfl<|Ab (Ag rfl rfl)<|Ab (Ag rfl rfl)<|bk h fun x0 q2 h=>AY (.tuple #[.agg ((aa x0.1)).toArray,vI x0.2]) (bd 56) rfl (e2 rfl rfl) (fun p q=>aM_c n (A0.hL0 hL q) (⟨(⟨false,([]:List UInt64)⟩:Td),(⟨false,([]:List UInt64)⟩:Td)⟩:Tf) (Am (Rep.nilSlice _ _) q) (Am (Rep.nilSlice _ _) q) q2) rfl<|Ab (Ag rfl rfl)<|Ab (Ag rfl rfl)<|AR (aa x0.1) A0 .t6 (aj rfl) fun J4 V0 C3=>Ah rfl<|Aa<|Ao rfl<|Au hb0 func66 rfl (.cons (.many (cs:=(aa x0.1)) rfl rfl (V0.memA .t6)) (.cons (.tmp rfl) .nil)) rfl ?_
 cases h
 exact V0.gv
def aC_l1 (n:Nat) (a0:List Ta) (D0:List Tb) (G0:Nat × U16 -> Option ((Except Te Tb) ⊕ (U16))):Nat × U16 -> Option ((Except Te Tb) ⊕ (U16))
  | (c0,d0,g0,j0,k0,p0,q0,s0,t0,u0,v0,x0,y0,z0,A0,B0,C0)=>(if c0 < a0.length then (a0[c0]?).bind fun K0=>(aJ_p n K0.fu (1:Int)).bind fun P0=>exc P0 (fun Q0=>(D0[c0]?).bind fun M0=>(bU_p n Q0 M0).bind fun E0=>(ac_p n E0.1 E0.2).bind fun R0=>exc R0 (fun U0=>(bV_p n (⟨(d0,g0,j0,k0,p0,q0,s0,t0),(u0,v0,x0,y0,z0,A0,B0,C0)⟩:Tb) U0).bind fun F0=>(ac_p n F0.1 F0.2).bind fun V0=>exc V0 (fun b0=>G0 (c0 + 1,b0.fN.1,b0.fN.2.1,b0.fN.2.2.1,b0.fN.2.2.2.1,b0.fN.2.2.2.2.1,b0.fN.2.2.2.2.2.1,b0.fN.2.2.2.2.2.2.1,b0.fN.2.2.2.2.2.2.2,b0.fD.1,b0.fD.2.1,b0.fD.2.2.1,b0.fD.2.2.2.1,b0.fD.2.2.2.2.1,b0.fD.2.2.2.2.2.1,b0.fD.2.2.2.2.2.2.1,b0.fD.2.2.2.2.2.2.2)) (fun J0=>some (.inl (.error J0)))) (fun I0=>some (.inl (.error I0)))) (fun H0=>(D0[c0]?).bind fun _x333=>some (.inl (.error H0))) else some (.inr (d0,g0,j0,k0,p0,q0,s0,t0,u0,v0,x0,y0,z0,A0,B0,C0)))
def aC_l2 (_n:Nat) (a0:List Ta) (d0:Int × Nat -> Option Int):Int × Nat -> Option Int
  | (c0,b0)=>(if b0 < a0.length then (a0[b0]?).bind fun j0=>(chk (c0 + j0.fu)).bind fun g0=>d0 (g0,b0 + 1) else some c0)
def aC_p (n:Nat) (a0:List Ta) (a1:Tg) (a2:List Int) (a3:Int):Option (Except Te Tb):=
  (ah_p n a0 a1 a2 a3).bind fun c0=>(aB_p n c0.1 c0.2).bind fun P0=>exc P0 (fun Q0=>Option.bind (au (aC_l2 n a0) n (0,0)) (fun g0=>(bE_p n (decide (g0 = 0)) (7:Int)).bind fun K0=>exc K0 (fun _y123=>(aJ_p n (0:Int) (1:Int)).bind fun M0=>exc M0 (fun b0=>thn (au (aC_l1 n a0 Q0) n (0,b0.fN.1,b0.fN.2.1,b0.fN.2.2.1,b0.fN.2.2.2.1,b0.fN.2.2.2.2.1,b0.fN.2.2.2.2.2.1,b0.fN.2.2.2.2.2.2.1,b0.fN.2.2.2.2.2.2.2,b0.fD.1,b0.fD.2.1,b0.fD.2.2.1,b0.fD.2.2.2.1,b0.fD.2.2.2.2.1,b0.fD.2.2.2.2.2.1,b0.fD.2.2.2.2.2.2.1,b0.fD.2.2.2.2.2.2.2)) (fun (t0,u0,v0,x0,y0,z0,A0,B0,C0,D0,E0,F0,G0,H0,I0,J0)=>(aJ_p n g0 (1:Int)).bind fun R0=>exc R0 (fun U0=>(bW_p n (⟨(t0,u0,v0,x0,y0,z0,A0,B0),(C0,D0,E0,F0,G0,H0,I0,J0)⟩:Tb) U0).bind fun d0=>(ac_p n d0.1 d0.2).bind fun V0=>exc V0 (fun W0=>some (.ok W0)) (fun s0=>some (.error s0))) (fun q0=>some (.error q0)))) (fun k0=>some (.error k0))) (fun j0=>some (.error j0)))) (fun p0=>some (.error p0))
theorem aC_c (n:Nat) {L w} (hL:hl L w) {a0:List Ta} {v0_0:Value} (h0_0:Rep.R w L [v0_0] a0) {p0:Nat} (m0:∀ j9 v9,([v0_0]:List Value)[j9]? = some v9 -> w.cell? ((⟨p0,0,none⟩:Addr).add j9) = some v9) (a1:Tg) {v1_3:Value} (h1_3:Rep.R w L [v1_3] a1.fm) {p1:Nat} (m1:∀ j9 v9,([vI a1.fl,vI a1.fh,vI a1.fj,v1_3]:List Value)[j9]? = some v9 -> w.cell? ((⟨p1,0,none⟩:Addr).add j9) = some v9) {a2:List Int} {v2_0:Value} (h2_0:Rep.R w L [v2_0] a2) {p2:Nat} (m2:∀ j9 v9,([v2_0]:List Value)[j9]? = some v9 -> w.cell? ((⟨p2,0,none⟩:Addr).add j9) = some v9) {a3:Int} {p3:Nat} (m3:∀ j9 v9,([vI a3]:List Value)[j9]? = some v9 -> w.cell? ((⟨p3,0,none⟩:Addr).add j9) = some v9) (hG0:Glob 0 tab0 w)  {r:Except Te Tb} (h:aC_p n a0 a1 a2 a3 = some r) :
 Cl 61 #[.pointer (some ⟨p0,0,none⟩),.pointer (some ⟨p1,0,none⟩),.pointer (some ⟨p2,0,none⟩),.pointer (some ⟨p3,0,none⟩)] w (aL w (fun (y:Tb) _ u=>u = .agg ((aa y)).toArray) (fun e=>.iface 176 (.agg #[vI e.ft])) r):=by
 unfold aC_p at h
 refine MX.startP func61 rfl rfl rfl fun _ cs0 hb0 hp0=>Ac<|RG.nl zL (AB w) fun V4 U0 t0 z4=>Aa<|Ac<|AS rfl ((fun j9 v9 h9=>t0.ag.cell0 (m0 j9 v9 h9)) 0 _ rfl)<|Ab (AH rfl (fun j9 v9 h9=>t0.ag.cell0 (m1 j9 v9 h9)))<|AS rfl ((fun j9 v9 h9=>t0.ag.cell0 (m2 j9 v9 h9)) 0 _ rfl)<|AS rfl ((fun j9 v9 h9=>t0.ag.cell0 (m3 j9 v9 h9)) 0 _ rfl)<|bk h fun D5 E3 h=>jE (bd 19) rfl (e4 rfl rfl rfl rfl) (fun p q=>ah_c n (t0.hL hL q) (t0.km h0_0 q) a1 (t0.km h1_3 q) (t0.km h2_0 q) (hG0.keep (t0.ag.trans q)) E3) rfl fun d5 U4 H2 ⟨Q4,hu_,M1⟩=>?_
 subst hu_
 obtain ⟨V0,B4⟩:=t0.agr H2
 refine Ab (Ag rfl rfl)<|Ab (Ag rfl rfl)<|xk h (fun q4 x1 h=>?_) (fun E5 x1 h=>?_)
 refine Bv (fst:=[]) (cap:=[]) .plain (bd 62) rfl (e2 rfl rfl) (fun p q=>aB_c n (V0.hL hL q) (Am M1 q) x1) fun g5 I2=>?_
 obtain ⟨k2,C4⟩:=V0.agr I2
 cases h
 exact Bk hp0 func61 ⟨k2.ag,rfl⟩
 refine jE (bd 62) rfl (e2 rfl rfl) (fun p q=>Be (aB_c n (V0.hL hL q) (Am M1 q) x1)) rfl fun j5 Q1 J2 ⟨R4,hu_,P1⟩=>?_
 subst hu_
 obtain ⟨g1,E4⟩:=V0.agr J2
 refine Ah rfl<|Aa<|Ac<|Ah rfl<|Aa<|Aj<|Ac<|AS rfl ((fun j9 v9 h9=>g1.ag.cell0 (m0 j9 v9 h9)) 0 _ rfl) ?_
 have K1:=AK h0_0 g1
 have K4:a0.length <= 281474976710656:=AZ K1
 refine Ab (Bd (xs:=a0) underlying30 rfl K1)<|Ae rfl<|Aa<|Av ?_
 obtain ⟨P4,t3,Y2⟩:=ar h
 refine MX.lo (α:=Int × Nat) (fun ⟨x0,v0⟩=>[(0,.pointer (some ⟨p0,0,none⟩)),(4,vP U0),(5,Q1),(6,vI x0),(20,v0_0),(21,vI ((a0.length:Nat):Int)),(22,vI ((v0:Nat):Int))]) (fun ⟨x0,v0⟩=>[.cells U0 zL 42]) (fun ⟨x0,v0⟩=>(x0,v0)) (0,0) t3 g1 ?_
 rintro U3 ⟨x0,v0⟩ A5 Z1 u0 s1 h
 unfold aC_l2 at h
 try dsimp only at h
 refine Ac<|Ab (Bc (i:=v0) (j:=a0.length) rfl rfl)<|Aa<|Aj<|AV rfl h (fun X1 h=>?_) (fun X1 h=>?_)
 refine Aq<|Aj<|Av<|Ac<|bk h fun X0 A3 h=>?_
 obtain ⟨K3,X3,U2,Z2,c4,u3,g3⟩:=Br (AK h0_0 u0) A3
 obtain rfl:=cw u3
 refine Ab (Bt 3 v0 rfl U2 rfl rfl Z2)<|Ab (AH rfl g3)<|RG.nl [.string ⟨#[]⟩,vI 0,vW 0] u0 fun W4 V3 b2 A2=>AR [.string X0.fp,vI X0.fu,vU X0.fm] b2 .hd (aj rfl) fun X4 G1 B2=>Aa<|Ar<|Ae rfl<|Bl 1 rfl<|AS rfl ((G1.memA .hd) 1 _ rfl)<|bk h fun I3 z3 h=>Ab (FV.addc (i:=x0) (j:=X0.fu) rfl rfl z3)<|Ah rfl<|Aa<|Aw<|Ar<|Ab (Bo (i:=v0) (j:=1) rfl rfl (by omega))<|Ae rfl<|Aa ?_
 obtain ⟨c2,C2⟩:=AQ G1 .d1
 exact Z1 (I3,v0 + 1) c2 (Tt s1 (Tt A2 (Tt B2 C2))) h
 refine Ba rfl ?_
 have h:=Y2 _ h
 try dsimp only at h
 refine Ac<|Ae rfl<|Ab (FV.eql (i:=x0) (j:=0) rfl rfl)<|xk h (fun k4 u1 h=>?_) (fun C5 u1 h=>?_)
 refine Bv (fst:=[]) (cap:=[]) .plain (bd 63) rfl (e2 rfl rfl) (fun p q=>bE_c n (u0.hL0 hL q)  u1) fun Y4 F2=>?_
 obtain ⟨d2,y4⟩:=u0.agr F2
 cases h
 exact Bk hp0 func61 ⟨d2.ag,rfl⟩
 refine AY (.tuple #[]) (bd 63) rfl (e2 rfl rfl) (fun p q=>Be (bE_c n (u0.hL0 hL q)  u1)) rfl<|Aa<|Ac<|xk h (fun p4 v1 h=>?_) (fun d0 v1 h=>?_)
 refine Bv (fst:=[]) (cap:=[]) .plain (bd 64) rfl (e2 rfl rfl) (fun p q=>aJ_c n (u0.hL0 hL q)  v1) fun Z4 G2=>?_
 obtain ⟨g2,A4⟩:=u0.agr G2
 cases h
 exact Bk hp0 func61 ⟨g2.ag,rfl⟩
 refine AY (.agg ((aa d0)).toArray) (bd 64) rfl (e2 rfl rfl) (fun p q=>Be (aJ_c n (u0.hL0 hL q)  v1)) rfl<|RG.nl zL u0 fun b5 F1 j2 I1=>AR (aa d0) j2 .hd (aj rfl) fun c5 c1 J1=>Aa<|Aj<|Ac<|AS rfl ((fun j9 v9 h9=>c1.ag.cell0 (m0 j9 v9 h9)) 0 _ rfl)<|Ab (Bd (xs:=a0) underlying30 rfl (AK h0_0 c1))<|Ae rfl<|Aa<|Av<|tn h fun M4 s3 W0=>MX.lo (α:=Nat × U16) (fun ⟨q0,z0,A0,B0,C0,D0,E0,F0,G0,H0,I0,J0,K0,M0,P0,Q0,R0⟩=>[(4,vP U0),(5,Q1),(6,vI x0),(9,vP F1),(35,v0_0),(36,vI ((a0.length:Nat):Int)),(37,vI ((q0:Nat):Int))]) (fun ⟨q0,z0,A0,B0,C0,D0,E0,F0,G0,H0,I0,J0,K0,M0,P0,Q0,R0⟩=>[.cells F1 [vU z0,vU A0,vU B0,vU C0,vU D0,vU E0,vU F0,vU G0,vU H0,vU I0,vU J0,vU K0,vU M0,vU P0,vU Q0,vU R0] 42,.cells U0 zL 42]) (fun ⟨q0,z0,A0,B0,C0,D0,E0,F0,G0,H0,I0,J0,K0,M0,P0,Q0,R0⟩=>(q0,z0,A0,B0,C0,D0,E0,F0,G0,H0,I0,J0,K0,M0,P0,Q0,R0)) (0,d0.fN.1,d0.fN.2.1,d0.fN.2.2.1,d0.fN.2.2.2.1,d0.fN.2.2.2.2.1,d0.fN.2.2.2.2.2.1,d0.fN.2.2.2.2.2.2.1,d0.fN.2.2.2.2.2.2.2,d0.fD.1,d0.fD.2.1,d0.fD.2.2.1,d0.fD.2.2.2.1,d0.fD.2.2.2.2.1,d0.fD.2.2.2.2.2.1,d0.fD.2.2.2.2.2.2.1,d0.fD.2.2.2.2.2.2.2) s3 c1 ?_
 rintro R3 ⟨q0,z0,A0,B0,C0,D0,E0,F0,G0,H0,I0,J0,K0,M0,P0,Q0,R0⟩ z5 Y1 k0 j1 h
 unfold aC_l1 at h
 try dsimp only at h
 refine Ac<|Ab (Bc (i:=q0) (j:=a0.length) rfl rfl)<|Aa<|Aj<|AV rfl h (fun W1 h=>?_) (fun W1 h=>?_)
 refine Aq<|Aj<|Av<|Ac<|Ae rfl<|bk h fun D1 B3 h=>?_
 obtain ⟨M3,Y3,V2,b3,d4,v3,j3⟩:=Br (AK h0_0 k0) B3
 obtain rfl:=cw v3
 refine Ab (Bt 3 q0 rfl V2 rfl rfl b3)<|Ab (AH rfl j3)<|RG.nl [.string ⟨#[]⟩,vI 0,vW 0] k0 fun k5 W3 q2 k1=>Ah rfl<|AR [.string D1.fp,vI D1.fu,vU D1.fm] q2 .hd (aj rfl) fun p5 j0 q1=>Aa<|du 16 fun b0 c0=>Rx 0 126976 b0 rfl c0 (AH rfl (j0.memA .t1))<|Rv 1 b0 rfl c0 (fun _=>Bn 1 rfl)<|Rx 2 130824 b0 rfl c0 (AW rfl ((j0.memA .hd) 1 _ rfl))<|xk h (fun s4 y1 h=>?_) (fun R1 y1 h=>?_)
 refine Rv 4 b0 rfl c0 (fun _=>Ai rfl)<|Rv 5 b0 rfl c0 (fun _=>Ai rfl)<|bk h fun B5 C3 h=>?_
 obtain ⟨P3,Z3,W2,c3,g4,x3,k3⟩:=Br (Ax P1 (Tt s1 (Tt I1 (Tt J1 (Tt j1 (Tt k1 q1)))))) C3
 obtain rfl:=dV x3
 refine Rv 6 b0 rfl c0 (fun _=>Bt 16 q0 rfl W2 rfl rfl c3)<|Rx 7 130816 b0 rfl c0 (AH rfl k3) ?_
 have h:=av h W0
 refine RD.one (i:=3) (rk b0) (RO.callE (fst:=[]) (cap:=[]) rfl .plain (bd 64) rfl (e2 rfl rfl) (fun p q=>aJ_c n (j0.hL0 hL q)  y1) (fun q5 K2=>?_))
 obtain ⟨s2,D4⟩:=j0.agr K2
 cases h
 exact Bk hp0 func61 ⟨s2.ag,rfl⟩
 refine RD.cq 3 15 130816 (.agg ((aa R1)).toArray) b0 rfl c0 (bd 64) rfl (e2 rfl rfl) (fun p q=>Be (aJ_c n (j0.hL0 hL q)  y1)) rfl<|Rv 4 b0 rfl c0 (fun _=>Ai rfl)<|Rv 5 b0 rfl c0 (fun _=>Ai rfl)<|bk h fun J3 D3 h=>?_
 obtain ⟨Q3,b4,X2,d3,j4,y3,q3⟩:=Br (Ax P1 (Tt s1 (Tt I1 (Tt J1 (Tt j1 (Tt k1 q1)))))) D3
 obtain rfl:=dV y3
 refine Rv 6 b0 rfl c0 (fun _=>Bt 16 q0 rfl X2 rfl rfl d3)<|Rx 7 130816 b0 rfl c0 (AH rfl q3)<|bk h fun Y0 F3 h=>RD.cq 8 511 130560 (.tuple #[.agg ((aa Y0.1)).toArray,vI Y0.2]) b0 rfl c0 (bd 21) rfl (e2 rfl rfl) (fun p q=>bU_c n (j0.hL0 hL q) R1 J3 F3) rfl<|Rv 9 b0 rfl c0 (fun _=>Ag rfl rfl)<|Rv 10 b0 rfl c0 (fun _=>Ag rfl rfl)<|xk h (fun t4 z1 h=>?_) (fun U1 z1 h=>?_)
 have h:=av h W0
 refine RD.one (i:=11) (rk b0) (RO.callE (fst:=[]) (cap:=[]) rfl .plain (bd 65) rfl (e2 rfl rfl) (fun p q=>ac_c n (j0.hL0 hL q) Y0.1 z1) (fun s5 M2=>?_))
 obtain ⟨t2,F4⟩:=j0.agr M2
 cases h
 exact Bk hp0 func61 ⟨t2.ag,rfl⟩
 refine RD.cq 11 4095 126976 (.agg ((aa U1)).toArray) b0 rfl c0 (bd 65) rfl (e2 rfl rfl) (fun p q=>Be (ac_c n (j0.hL0 hL q) Y0.1 z1)) rfl<|bk h fun Z0 G3 h=>RD.cq 12 8191 122880 (.tuple #[.agg ((aa Z0.1)).toArray,vI Z0.2]) b0 rfl c0 (bd 22) rfl (e2 rfl rfl) (fun p q=>bV_c n (j0.hL0 hL q) (⟨(z0,A0,B0,C0,D0,E0,F0,G0),(H0,I0,J0,K0,M0,P0,Q0,R0)⟩:Tb) U1 G3) rfl<|Rv 13 b0 rfl c0 (fun _=>Ag rfl rfl)<|Rv 14 b0 rfl c0 (fun _=>Ag rfl rfl)<|xk h (fun u4 A1 h=>?_) (fun g0 A1 h=>?_)
 have h:=av h W0
 refine RD.one (i:=15) (rk b0) (RO.callE (fst:=[]) (cap:=[]) rfl .plain (bd 65) rfl (e2 rfl rfl) (fun p q=>ac_c n (j0.hL0 hL q) Z0.1 A1) (fun t5 P2=>?_))
 obtain ⟨u2,G4⟩:=j0.agr P2
 cases h
 exact Bk hp0 func61 ⟨u2.ag,rfl⟩
 refine RD.cq 15 65535 65536 (.agg ((aa g0)).toArray) b0 rfl c0 (bd 65) rfl (e2 rfl rfl) (fun p q=>Be (ac_c n (j0.hL0 hL q) Z0.1 A1)) rfl<|BB 16 131071 b0 rfl rfl .plain (Az (news:=(aa g0)) j0 .t1 rfl rfl rfl rfl rfl rfl (aj rfl)) fun u5 v2 D2=>AI (dk b0)<|Aw<|Ar<|Ab (Bo (i:=q0) (j:=1) rfl rfl (by omega))<|Ae rfl<|Aa ?_
 obtain ⟨x2,E2⟩:=AQ v2 .d1
 exact Y1 (q0 + 1,g0.fN.1,g0.fN.2.1,g0.fN.2.2.1,g0.fN.2.2.2.1,g0.fN.2.2.2.2.1,g0.fN.2.2.2.2.2.1,g0.fN.2.2.2.2.2.2.1,g0.fN.2.2.2.2.2.2.2,g0.fD.1,g0.fD.2.1,g0.fD.2.2.1,g0.fD.2.2.2.1,g0.fD.2.2.2.2.1,g0.fD.2.2.2.2.2.1,g0.fD.2.2.2.2.2.2.1,g0.fD.2.2.2.2.2.2.2) x2 (Tt j1 (Tt k1 (Tt q1 (Tt D2 E2)))) h
 refine Ba rfl ?_
 have h:=aB h W0
 try dsimp only at h
 refine Aj<|du 7 fun s0 y0=>Rx 0 248 s0 rfl y0 (AH rfl (k0.memA .hd))<|Rv 1 s0 rfl y0 (fun _=>Ai rfl)<|xk h (fun v4 B1 h=>?_) (fun V1 B1 h=>?_)
 refine RD.one (i:=2) (rk s0) (RO.callE (fst:=[]) (cap:=[]) rfl .plain (bd 64) rfl (e2 rfl rfl) (fun p q=>aJ_c n (k0.hL0 hL q)  B1) (fun v5 Q2=>?_))
 obtain ⟨y2,H4⟩:=k0.agr Q2
 cases h
 exact Bk hp0 func61 ⟨y2.ag,rfl⟩
 refine RD.cq 2 7 248 (.agg ((aa V1)).toArray) s0 rfl y0 (bd 64) rfl (e2 rfl rfl) (fun p q=>Be (aJ_c n (k0.hL0 hL q)  B1)) rfl<|bk h fun b1 H3 h=>RD.cq 3 15 240 (.tuple #[.agg ((aa b1.1)).toArray,vI b1.2]) s0 rfl y0 (bd 66) rfl (e2 rfl rfl) (fun p q=>bW_c n (k0.hL0 hL q) (⟨(z0,A0,B0,C0,D0,E0,F0,G0),(H0,I0,J0,K0,M0,P0,Q0,R0)⟩:Tb) V1 H3) rfl<|Rv 4 s0 rfl y0 (fun _=>Ag rfl rfl)<|Rv 5 s0 rfl y0 (fun _=>Ag rfl rfl)<|xk h (fun x4 C1 h=>?_) (fun E1 C1 h=>?_)
 refine RD.one (i:=6) (rk s0) (RO.callE (fst:=[]) (cap:=[]) rfl .plain (bd 65) rfl (e2 rfl rfl) (fun p q=>ac_c n (k0.hL0 hL q) b1.1 C1) (fun x5 R2=>?_))
 obtain ⟨z2,I4⟩:=k0.agr R2
 cases h
 exact Bk hp0 func61 ⟨z2.ag,rfl⟩
 refine RD.cq 6 127 128 (.agg ((aa E1)).toArray) s0 rfl y0 (bd 65) rfl (e2 rfl rfl) (fun p q=>Be (ac_c n (k0.hL0 hL q) b1.1 C1)) rfl<|BB 7 255 s0 rfl rfl .plain (Az (news:=(aa E1)) k0 .t1 rfl rfl rfl rfl rfl rfl (aj rfl)) fun y5 H1 J4=>AI (dk s0)<|Ao rfl<|Au hb0 func61 rfl (.cons (.many (cs:=(aa E1)) rfl rfl (H1.memA .t1)) .nil) rfl ?_
 cases h
 exact ⟨H1.ag,fun p q=>aE rfl⟩
def av_p (n:Nat) (a0:List Ta) (a1:Tg) (a2:List Int) (a3:Int):Option (Tb × Int):=
  (aC_p n a0 a1 a2 a3).bind fun c0=>exc c0 (fun d0=>some (d0,(0:Int))) (fun b0=>some ((⟨(0,0,0,0,0,0,0,0),(0,0,0,0,0,0,0,0)⟩:Tb),b0.ft))
theorem av_c (n:Nat) {L w} (hL:hl L w) {a0:List Ta} {v0_0:Value} (h0_0:Rep.R w L [v0_0] a0) (a1:Tg) {v1_3:Value} (h1_3:Rep.R w L [v1_3] a1.fm) {a2:List Int} {v2_0:Value} (h2_0:Rep.R w L [v2_0] a2) {a3:Int} (hG0:Glob 0 tab0 w)  {r:Tb × Int} (h:av_p n a0 a1 a2 a3 = some r) :
 Cl 23 #[v0_0,.agg #[vI a1.fl,vI a1.fh,vI a1.fj,v1_3],v2_0,vI a3] w (ac w fun _ u=>u = .tuple #[.agg ((aa r.1)).toArray,vI r.2]):=by
 unfold av_p at h
 refine AF func23 rfl rfl rfl fun _ cs0 hb0=>Ac<|RG.bx (AB w) rfl (Rep.c1 h0_0) fun X1 j0 K0 F1=>RG.bx K0 rfl rfl fun j2 p0 G0 H1=>RG.bx G0 rfl (Rep.c1 (AK h2_0 G0)) fun k2 q0 U0 I1=>RG.bx U0 rfl rfl fun p2 s0 V0 J1=>RG.nl zL V0 fun w32 J0 W0 K1=>Ah rfl<|Aa<|Ac<|Ab (FV.makeFunc (vs:=[]) (us:=[vP j0,vP p0,vP q0,vP s0]) ah (e4 rfl rfl rfl rfl))<|Bq (fst:=[]) (cap:=[]) (vs:=[.func (.func 61) #[] #[vP j0,vP p0,vP q0,vP s0]]) .plain (bd 60) func60 rfl rfl rfl rfl (e1 rfl) rfl fun z1 H0 W1=>Ac<|RG.nl zL W0 fun q2 t0 X0 M1=>RG.nl [vI 0] X0 fun s2 d0 b0 P1=>Aa<|Ac<|Ab (FV.makeFunc (vs:=[]) (us:=[vP t0,vP d0]) ah (e2 rfl rfl))<|RG.defer (fst:=[]) (cap:=[vP t0,vP d0]) (vs:=[]) rfl .plain rfl ah<|Aa<|Ac ?_
 refine Ae rfl<|xk h (fun v0 B0 h=>?_) (fun g0 B0 h=>?_)
 refine Bv (fst:=[]) (cap:=[vP j0,vP p0,vP q0,vP s0]) .plain (bd 61) rfl ah (fun p q=>aC_c n (b0.hL0 hL q) (b0.k0 h0_0 q) (aq q (b0.memA .t6)) a1 (b0.k0 h1_3 q) (aq q (b0.memA .t5)) (b0.k0 h2_0 q) (aq q (b0.memA .t4)) (aq q (b0.memA .t3)) (hG0.keep (b0.ag.trans q)) B0) fun u2 j1=>?_
 obtain ⟨Y0,Q1⟩:=b0.agr j1
 refine PN.callD (vs:=[]) (cap:=[vP t0,vP d0]) (bd 104) func104 rfl rfl rfl fun y1 k1 q1=>Ac<|RG.recover1 .plain k1 rfl<|Ah rfl<|Aa<|Ac<|Ae rfl<|Ab (FV.neqI underlying20 rfl rfl)<|Aa<|Bb rfl<|Ac<|Ae rfl<|Ab (FV.assertT rfl rfl)<|Ae rfl<|Ab (Ag rfl rfl)<|Ab (Ag rfl rfl)<|RG.nl [vI 0] Y0 fun v2 u1 Z0 R1=>AR [vI v0.ft] Z0 .hd (o1 rfl) fun x2 b1 U1=>Ah rfl<|Aa<|Aj<|Ac<|Ae rfl<|Ab (BC rfl)<|Aa<|Bj rfl<|Aq<|Ac<|RG.nl zL b1 fun y2 v1 u0 V1=>Aa<|du 3 fun c0 C0=>Rx 0 24 c0 rfl C0 (AH rfl (u0.memA .hd))<|Rv 1 c0 rfl C0 (fun _=>Bn 0 rfl)<|RD.mo (α:=Unit) (fun ()=>[(1,vP d0),(19,vI v0.ft)]) (fun ()=>[.cells d0 [vI 0] 35,.cells t0 zL 42,.cells J0 zL 42,.cells s0 [vI a3] 3,.cells q0 [v2_0] 53,.cells p0 [vI a1.fl,vI a1.fh,vI a1.fj,v1_3] 58,.cells j0 [v0_0] 30]) u0 1 15 ?_ ?_
 rintro ⟨⟩ z2 M0 A1
 try dsimp only
 refine BB 4 31 c0 rfl rfl .plain (Az (news:=[vI v0.ft]) M0 .hd rfl rfl rfl rfl rfl rfl (o1 rfl)) fun Y1 y0 B1=>AI (dk c0)<|MX.fin rfl<|RT.leaveD1 q1 func104 rfl .nil<|Au (u:=.tuple #[.agg zM,vI v0.ft]) H0 func60 rfl (.cons (.many (cs:=zL) rfl rfl (y0.memA .t1)) (.cons (.one rfl rfl ((y0.memA .hd) 0 _ rfl)) .nil)) rfl<|Ab (Ag rfl rfl)<|Ab (Ag rfl rfl)<|AR zL y0 .t2 (aj rfl) fun Z1 E0 C1=>Ah rfl<|Aa<|Ao rfl<|Au hb0 func23 rfl (.cons (.many (cs:=zL) rfl rfl (E0.memA .t2)) (.cons (.tmp rfl) .nil)) rfl ?_
 cases h
 exact E0.gv
 intro D0
 refine RD.each [2,3] (rk c0) ⟨?_,?_,trivial⟩
 refine RO.val (m' :=7) (sk c0) rfl .plain rfl (AW rfl ((u0.memA .t1) 0 _ rfl))<|BB 3 15 c0 rfl rfl .plain (Az (news:=zL) u0 .t3 rfl rfl rfl rfl rfl rfl (aj rfl)) fun s1 x0 A0=>?_
 obtain ⟨P0,d1⟩:=AQ x0 .d2
 exact D0 () P0 (Tt A0 d1)
 refine RO.now (m' :=11) (sk c0) rfl rfl .plain (Az (news:=zL) u0 .t3 rfl rfl rfl rfl rfl rfl (aj rfl)) fun s1 x0 A0=>Rx 2 16 c0 rfl C0 (AW rfl ((x0.memA .t1) 0 _ rfl)) ?_
 obtain ⟨Q0,g1⟩:=AQ x0 .d2
 exact D0 () Q0 (Tt A0 g1)
 refine RG.callq' (v:=.agg ((aa g0)).toArray) (fst:=[]) (cap:=[vP j0,vP p0,vP q0,vP s0]) .plain (bd 61) rfl ah (fun p q=>Be (aC_c n (b0.hL0 hL q) (b0.k0 h0_0 q) (aq q (b0.memA .t6)) a1 (b0.k0 h1_3 q) (aq q (b0.memA .t5)) (b0.k0 h2_0 q) (aq q (b0.memA .t4)) (aq q (b0.memA .t3)) (hG0.keep (b0.ag.trans q)) B0)) rfl<|AR (aa g0) b0 .t1 (aj rfl) fun b2 R0 D1=>AR [vI 0] R0 .hd (o1 rfl) fun c2 z0 E1=>Aa<|Ao rfl<|RT.callD (vs:=[]) (cap:=[vP t0,vP d0]) (bd 104) func104 rfl rfl rfl fun x1 I0 p1=>Ac<|RG.recover0 .plain I0 rfl<|Ah rfl<|Aa<|Ac<|Ae rfl<|Ab (FV.neqI0 underlying20 rfl rfl)<|Aa<|Bj rfl<|Aq<|MX.fin rfl<|RT.leaveD0 I0 p1 func104 rfl .nil<|Au (u:=.tuple #[.agg ((aa g0)).toArray,vI 0]) H0 func60 rfl (.cons (.many (cs:=(aa g0)) rfl rfl (z0.memA .t1)) (.cons (.one rfl rfl ((z0.memA .hd) 0 _ rfl)) .nil)) rfl<|Ab (Ag rfl rfl)<|Ab (Ag rfl rfl)<|AR (aa g0) z0 .t2 (aj rfl) fun g2 F0 G1=>Ah rfl<|Aa<|Ao rfl<|Au hb0 func23 rfl (.cons (.many (cs:=(aa g0)) rfl rfl (F0.memA .t2)) (.cons (.tmp rfl) .nil)) rfl ?_
 cases h
 exact F0.gv
theorem el69:ElT Tryz.prog 69 75 (Rep.size (List UInt64)) 24 vN [vN]:=⟨underlying69,by kernel_rfl,rfl,rfl,rfl,rfl⟩
def aE_l1 (n:Nat) (a0:List Ta) (a1:Tg) (a2:List Int) (a3:Int) (d0:Nat × (List (List UInt64)) -> Option (List (List UInt64))):Nat × (List (List UInt64)) -> Option (List (List UInt64))
  | (b0,c0)=>(if b0 < a0.length then (a0[b0]?).bind fun g0=>(ai_p n (⟨a1,a2,a3⟩:Th) g0).bind fun k0=>(app c0 ([k0]:List (List UInt64))).bind fun j0=>d0 (b0 + 1,j0) else some c0)
def aE_p (n:Nat) (a0:List Ta) (a1:Tg) (a2:List Int) (a3:Int):Option ((List (List UInt64)) × Int):=
  (bj_p n a1 a2 a3).bind fun k0=>(aj_p n k0).bind fun p0=>exc p0 (fun _y64=>(aa_p n ((a2.length:Nat):Int) a0).bind fun g0=>(aj_p n g0).bind fun j0=>exc j0 (fun _y1303=>Option.bind (au (aE_l1 n a0 a1 a2 a3) n (0,([]:List (List UInt64)))) (fun d0=>some (d0,(0:Int)))) (fun b0=>some (([]:List (List UInt64)),b0.ft))) (fun c0=>some (([]:List (List UInt64)),c0.ft))
theorem aE_c (n:Nat) {L w} (hL:hl L w) {a0:List Ta} {v0_0:Value} (h0_0:Rep.R w L [v0_0] a0) (a1:Tg) {v1_3:Value} (h1_3:Rep.R w L [v1_3] a1.fm) {a2:List Int} {v2_0:Value} (h2_0:Rep.R w L [v2_0] a2) {a3:Int} (hG0:Glob 0 tab0 w)  {r:(List (List UInt64)) × Int} (h:aE_p n a0 a1 a2 a3 = some r) :
 Cl 24 #[v0_0,.agg #[vI a1.fl,vI a1.fh,vI a1.fj,v1_3],v2_0,vI a3] w (ac w fun w' u=>∃ v0_0:Value,u = .tuple #[v0_0,vI r.2]/\Rep.R w' L [v0_0] r.1):=by
 unfold aE_p at h
 refine AF func24 rfl rfl rfl fun _ cs0 hb0=>Ac<|RG.bx (AB w) rfl rfl fun X4 H0 R0 q4=>Ah rfl<|Ah rfl<|Aa<|Ac<|Ae rfl<|Ab (AH rfl (R0.memA .hd))<|Ae rfl<|Ae rfl<|Bq (fst:=[]) (cap:=[]) (vs:=[v0_0,.agg #[vI a1.fl,vI a1.fh,vI a1.fj,v1_3],v2_0,vI a3,.func (.func 68) #[] #[]]) .plain (bd 67) func67 rfl rfl rfl rfl (e5 rfl rfl rfl rfl rfl) rfl fun c4 Z0 R4=>Ac<|RG.bx R0 rfl (Rep.c1 (AK h0_0 R0)) fun d5 z0 V1 x4=>RG.bx V1 rfl rfl fun g5 u0 x1 B4=>RG.bx x1 rfl (Rep.c1 (AK h2_0 x1)) fun y5 v0 k2 D4=>RG.bx k2 rfl rfl fun z5 x0 p2 E4=>RG.bx p2 rfl rfl fun A5 y0 q2 F4=>?_
 refine Ah rfl<|Ah rfl<|Aa<|Ac<|Ab (FV.makeFunc (vs:=[]) (us:=[vP u0,vP v0,vP x0,vP z0,vP y0]) ah (e5 rfl rfl rfl rfl rfl))<|Bq (fst:=[]) (cap:=[]) (vs:=[.func (.func 107) #[] #[vP u0,vP v0,vP x0,vP z0,vP y0]]) .plain (bd 106) func106 rfl rfl rfl rfl (e1 rfl) rfl fun g4 b1 U4=>Ac<|RG.nl [vN] q2 fun B5 p0 s2 G4=>RG.nl [vI 0] s2 fun C5 g0 b0 H4=>Aa<|Ac<|Ab (FV.makeFunc (vs:=[]) (us:=[vP p0,vP g0]) ah (e2 rfl rfl))<|RG.defer (fst:=[]) (cap:=[vP p0,vP g0]) (vs:=[]) rfl .plain rfl ah<|Aa<|Ac<|Ae rfl<|Bq (fst:=[]) (cap:=[vP u0,vP v0,vP x0,vP z0,vP y0]) (vs:=[]) .plain (bd 107) func107 rfl rfl rfl rfl ah rfl fun j4 M2 E1=>Ac<|Ah rfl<|Aa<|Ac<|Ab (AH rfl (b0.memA .t5))<|AS rfl ((b0.memA .t4) 0 _ rfl)<|AS rfl ((b0.memA .t3) 0 _ rfl)<|bk h fun F3 z3 h=>AY (vI F3) (bd 95) rfl (e3 rfl rfl rfl) (fun p q=>bj_c n (b0.hL0 hL q) a1 (b0.k0 h1_3 q) (b0.k0 h2_0 q) z3) rfl<|xk h (fun C0 j1 h=>?_) (fun J5 j1 h=>?_)
 refine Bv (fst:=[]) (cap:=[]) .plain (bd 94) rfl (e1 rfl) (fun p q=>aj_c n (b0.hL0 hL q)  j1) fun D5 K2=>?_
 obtain ⟨u2,I4⟩:=b0.agr K2
 refine Bk E1 func107<|PN.callD (vs:=[]) (cap:=[vP p0,vP g0]) (bd 147) func147 rfl rfl rfl fun b4 R2 Z2=>Ac<|RG.recover1 .plain R2 rfl<|Ah rfl<|Aa<|Ac<|Ae rfl<|Ab (FV.neqI underlying20 rfl rfl)<|Aa<|Bb rfl<|Ac<|Ae rfl<|Ab (FV.assertT rfl rfl)<|Ae rfl<|Ab (Ag rfl rfl)<|Ab (Ag rfl rfl)<|RG.nl [vI 0] u2 fun E5 R3 v2 J4=>AR [vI C0.ft] v2 .hd (o1 rfl) fun F5 M0 K4=>Ah rfl<|Aa<|Aj<|Ac<|Ae rfl<|Ab (BC rfl)<|Aa<|Bj rfl<|Aq<|Ac<|Ah rfl<|Aa<|du 3 fun s0 p1=>Rv 0 s0 rfl p1 (fun _=>Ai rfl)<|Rv 1 s0 rfl p1 (fun _=>Bn 0 rfl)<|RD.mo (α:=Unit) (fun ()=>[(1,vP g0),(19,vI C0.ft)]) (fun ()=>[.cells g0 [vI 0] 35,.cells p0 [vN] 69,.cells y0 [.func (.func 68) #[] #[]] 135,.cells x0 [vI a3] 3,.cells v0 [v2_0] 53,.cells u0 [vI a1.fl,vI a1.fh,vI a1.fj,v1_3] 58,.cells z0 [v0_0] 30,.cells H0 [vI a1.fl,vI a1.fh,vI a1.fj,v1_3] 58]) M0 1 15 ?_ ?_
 rintro ⟨⟩ G5 M1 k4
 try dsimp only
 refine BB 4 31 s0 rfl rfl .plain (Az (news:=[vI C0.ft]) M1 .hd rfl rfl rfl rfl rfl rfl (o1 rfl)) fun Y4 D0 p4=>AI (dk s0)<|MX.fin rfl<|RT.leaveD1 Z2 func147 rfl .nil<|Au (u:=.tuple #[vN,vI C0.ft]) b1 func106 rfl (.cons (.one rfl rfl ((D0.memA .t1) 0 _ rfl)) (.cons (.one rfl rfl ((D0.memA .hd) 0 _ rfl)) .nil)) rfl<|Ab (Ag rfl rfl)<|Ab (Ag rfl rfl)<|Ah rfl<|Ah rfl<|Aa<|Ao rfl<|Au (u:=.tuple #[vN,vI C0.ft]) Z0 func67 rfl (.cons (.tmp rfl) (.cons (.tmp rfl) .nil)) rfl<|Ab (Ag rfl rfl)<|Ab (Ag rfl rfl)<|Ah rfl<|Ah rfl<|Aa<|Ao rfl ?_
 have d3:=BA (α:=List UInt64) D0 L
 refine Au hb0 func24 rfl (.cons (.tmp rfl) (.cons (.tmp rfl) .nil)) rfl ?_
 cases h
 exact ⟨D0.ag,fun p q=>⟨vN,rfl,D0.kd d3 q⟩⟩
 intro s1
 refine RD.each [2,3] (rk s0) ⟨?_,?_,trivial⟩
 refine RO.val (m' :=7) (sk s0) rfl .plain rfl (AW rfl ((M0.memA .hd) 0 _ rfl))<|BB 3 15 s0 rfl rfl .plain (Az (news:=[vN]) M0 .t2 rfl rfl rfl rfl rfl rfl (o1 rfl)) fun C3 K0 Y0=>?_
 obtain ⟨P1,x2⟩:=AQ K0 .d1
 exact s1 () P1 (Tt Y0 x2)
 refine RO.now (m' :=11) (sk s0) rfl rfl .plain (Az (news:=[vN]) M0 .t2 rfl rfl rfl rfl rfl rfl (o1 rfl)) fun C3 K0 Y0=>Rx 2 16 s0 rfl p1 (AW rfl ((K0.memA .hd) 0 _ rfl)) ?_
 obtain ⟨Q1,y2⟩:=AQ K0 .d1
 exact s1 () Q1 (Tt Y0 y2)
 refine AY (.tuple #[]) (bd 94) rfl (e1 rfl) (fun p q=>Be (aj_c n (b0.hL0 hL q)  j1)) rfl<|Aa<|Ac<|AS rfl ((b0.memA .t4) 0 _ rfl) ?_
 have C1:=AK h2_0 b0
 have P4:a2.length <= 281474976710656:=AZ C1
 refine Ab (Bd (xs:=a2) underlying53 rfl C1)<|AS rfl ((b0.memA .t6) 0 _ rfl)<|bk h fun E3 x3 h=>AY (vI E3) (bd 13) rfl (e2 rfl rfl) (fun p q=>aa_c n (b0.hL0 hL q) (b0.k0 h0_0 q) x3) rfl<|xk h (fun B0 g1 h=>?_) (fun I5 g1 h=>?_)
 refine Bv (fst:=[]) (cap:=[]) .plain (bd 94) rfl (e1 rfl) (fun p q=>aj_c n (b0.hL0 hL q)  g1) fun Z4 I2=>?_
 obtain ⟨R1,s4⟩:=b0.agr I2
 refine Bk E1 func107<|PN.callD (vs:=[]) (cap:=[vP p0,vP g0]) (bd 147) func147 rfl rfl rfl fun U3 P2 W2=>Ac<|RG.recover1 .plain P2 rfl<|Ah rfl<|Aa<|Ac<|Ae rfl<|Ab (FV.neqI underlying20 rfl rfl)<|Aa<|Bb rfl<|Ac<|Ae rfl<|Ab (FV.assertT rfl rfl)<|Ae rfl<|Ab (Ag rfl rfl)<|Ab (Ag rfl rfl)<|RG.nl [vI 0] R1 fun b5 M3 U1 u4=>AR [vI B0.ft] U1 .hd (o1 rfl) fun c5 I0 v4=>Ah rfl<|Aa<|Aj<|Ac<|Ae rfl<|Ab (BC rfl)<|Aa<|Bj rfl<|Aq<|Ac<|Ah rfl<|Aa<|du 3 fun q0 k1=>Rv 0 q0 rfl k1 (fun _=>Ai rfl)<|Rv 1 q0 rfl k1 (fun _=>Bn 0 rfl)<|RD.mo (α:=Unit) (fun ()=>[(1,vP g0),(19,vI B0.ft)]) (fun ()=>[.cells g0 [vI 0] 35,.cells p0 [vN] 69,.cells y0 [.func (.func 68) #[] #[]] 135,.cells x0 [vI a3] 3,.cells v0 [v2_0] 53,.cells u0 [vI a1.fl,vI a1.fh,vI a1.fj,v1_3] 58,.cells z0 [v0_0] 30,.cells H0 [vI a1.fl,vI a1.fh,vI a1.fj,v1_3] 58]) I0 1 15 ?_ ?_
 rintro ⟨⟩ H5 W1 y4
 try dsimp only
 refine BB 4 31 q0 rfl rfl .plain (Az (news:=[vI B0.ft]) W1 .hd rfl rfl rfl rfl rfl rfl (o1 rfl)) fun j5 E0 z4=>AI (dk q0)<|MX.fin rfl<|RT.leaveD1 W2 func147 rfl .nil<|Au (u:=.tuple #[vN,vI B0.ft]) b1 func106 rfl (.cons (.one rfl rfl ((E0.memA .t1) 0 _ rfl)) (.cons (.one rfl rfl ((E0.memA .hd) 0 _ rfl)) .nil)) rfl<|Ab (Ag rfl rfl)<|Ab (Ag rfl rfl)<|Ah rfl<|Ah rfl<|Aa<|Ao rfl<|Au (u:=.tuple #[vN,vI B0.ft]) Z0 func67 rfl (.cons (.tmp rfl) (.cons (.tmp rfl) .nil)) rfl<|Ab (Ag rfl rfl)<|Ab (Ag rfl rfl)<|Ah rfl<|Ah rfl<|Aa<|Ao rfl ?_
 have g3:=BA (α:=List UInt64) E0 L
 refine Au hb0 func24 rfl (.cons (.tmp rfl) (.cons (.tmp rfl) .nil)) rfl ?_
 cases h
 exact ⟨E0.ag,fun p q=>⟨vN,rfl,E0.kd g3 q⟩⟩
 intro u1
 refine RD.each [2,3] (rk q0) ⟨?_,?_,trivial⟩
 refine RO.val (m' :=7) (sk q0) rfl .plain rfl (AW rfl ((I0.memA .hd) 0 _ rfl))<|BB 3 15 q0 rfl rfl .plain (Az (news:=[vN]) I0 .t2 rfl rfl rfl rfl rfl rfl (o1 rfl)) fun B3 J0 X0=>?_
 obtain ⟨X1,z2⟩:=AQ J0 .d1
 exact u1 () X1 (Tt X0 z2)
 refine RO.now (m' :=11) (sk q0) rfl rfl .plain (Az (news:=[vN]) I0 .t2 rfl rfl rfl rfl rfl rfl (o1 rfl)) fun B3 J0 X0=>Rx 2 16 q0 rfl k1 (AW rfl ((J0.memA .hd) 0 _ rfl)) ?_
 obtain ⟨Y1,A2⟩:=AQ J0 .d1
 exact u1 () Y1 (Tt X0 A2)
 refine AY (.tuple #[]) (bd 94) rfl (e1 rfl) (fun p q=>Be (aj_c n (b0.hL0 hL q)  g1)) rfl<|Aa<|Aj<|Ac<|AS rfl ((b0.memA .t6) 0 _ rfl) ?_
 have D1:=AK h0_0 b0
 have Q4:a0.length <= 281474976710656:=AZ D1
 refine Ab (Bd (xs:=a0) underlying30 rfl D1)<|Ae rfl<|Aa<|Av ?_
 have U0:=b0.nilRow 75 (Rep.size (List UInt64))
 have A4:=St.nilRowT b0 75 (Rep.size (List UInt64))
 have v1:=U0.nilRow 75 (Rep.size (List UInt64))
 have M4:=AG (cs:=[]) (xs:=([]:List (List UInt64))) v1 L (AJ _ _)
 obtain ⟨V4,c3,V2⟩:=ar h
 refine MX.lf (α:=Nat × (List (List UInt64)) × Value × (List Value)) (fun ⟨j0,t0,c0,A0⟩=>[(0,vP u0),(1,vP v0),(2,vP x0),(4,vP y0),(5,c0),(18,v0_0),(19,vI ((a0.length:Nat):Int)),(20,vI ((j0:Nat):Int))]) (fun ⟨j0,t0,c0,A0⟩=>[rr w 75 (List UInt64) vN (([]:List (List UInt64)).length) [],rr w 75 (List UInt64) c0 t0.length A0,.cells g0 [vI 0] 35,.cells p0 [vN] 69,.cells y0 [.func (.func 68) #[] #[]] 135,.cells x0 [vI a3] 3,.cells v0 [v2_0] 53,.cells u0 [vI a1.fl,vI a1.fh,vI a1.fj,v1_3] 58,.cells z0 [v0_0] 30,.cells H0 [vI a1.fl,vI a1.fh,vI a1.fj,v1_3] 58]) (fun ⟨j0,t0,c0,A0⟩ H1=>Cells H1 (bl [rr w 75 (List UInt64) vN (([]:List (List UInt64)).length) [],rr w 75 (List UInt64) c0 t0.length A0,.cells g0 [vI 0] 35,.cells p0 [vN] 69,.cells y0 [.func (.func 68) #[] #[]] 135,.cells x0 [vI a3] 3,.cells v0 [v2_0] 53,.cells u0 [vI a1.fl,vI a1.fh,vI a1.fj,v1_3] 58,.cells z0 [v0_0] 30,.cells H0 [vI a1.fl,vI a1.fh,vI a1.fj,v1_3] 58] ++ L) A0 t0) (fun ⟨j0,t0,c0,A0⟩=>(j0,t0)) (0,([]:List (List UInt64)),vN,[]) c3 v1 (AX (AG (cs:=[]) (xs:=([]:List (List UInt64))) U0 L (AJ _ _)) (St.nilRowT U0 75 (Rep.size (List UInt64)))) ?_
 rintro K3 ⟨j0,t0,c0,A0⟩ H1 K1 F0 B2 A1 h
 unfold aE_l1 at h
 try dsimp only at h
 refine Ac<|Ab (Bc (i:=j0) (j:=a0.length) rfl rfl)<|Aa<|Aj<|AV rfl h (fun I1 h=>?_) (fun I1 h=>?_)
 refine Aq<|Aj<|Av<|Ac<|bk h fun Q0 u3 h=>?_
 obtain ⟨G3,V3,U2,X2,d4,j3,b3⟩:=Br (AK h0_0 F0) u3
 obtain rfl:=cw j3
 refine Ab (Bt 3 j0 rfl U2 rfl rfl X2)<|Ab (AH rfl b3)<|RG.nl [.string ⟨#[]⟩,vI 0,vW 0] F0 fun k5 P3 Z1 C2=>AR [.string Q0.fp,vI Q0.fu,vU Q0.fm] Z1 .hd (aj rfl) fun p5 d0 D2=>Aa<|Ar<|Ae rfl<|AS rfl ((d0.memA .t5) 0 _ rfl)<|Ab (AH rfl (d0.memA .t8))<|AS rfl ((d0.memA .t7) 0 _ rfl)<|AS rfl ((d0.memA .t6) 0 _ rfl) ?_
 obtain ⟨H3,W3,p3,_⟩:=Rep.sl (AK h1_3 d0)
 obtain ⟨I3,X3,q3,_⟩:=Rep.sl (AK h2_0 d0)
 refine Ab (AE (vs:=[.agg #[vI a1.fl,vI a1.fh,vI a1.fj,v1_3],v2_0,vI a3]) (u:=.agg #[vI a1.fl,vI a1.fh,vI a1.fj,v1_3,v2_0,vI a3]) (e3 rfl rfl rfl) (fun p=>by rw [p3,q3]; try kernel_rfl))<|Ab (AH rfl (d0.memA .hd))<|bk h fun q1 y3 h=>jE (bd 68) rfl (e2 rfl rfl) (fun p q=>ai_c n (d0.hL hL q) (⟨a1,a2,a3⟩:Th) (d0.km h1_3 q) (d0.km h2_0 q) Q0 (hG0.keep (d0.ag.trans q)) y3) rfl fun q5 P0 J2 ⟨W4,hu_,G1⟩=>?_
 subst hu_
 obtain ⟨b2,E2⟩:=d0.agr J2
 obtain ⟨J3,Y3,s3,_⟩:=Rep.sl G1
 refine Al .plain rfl (AL (α:=List UInt64) (xs:=([q1]:List (List UInt64))) (vs:=[P0]) (ds' :=[P0]) rfl b2 el69 rfl (e1 rfl) (by rw [s3]; try kernel_rfl) rfl) fun s5 Q3 V0 y1=>bk h fun D3 v3 h=>?_
 have F1:=Tt C2 (Tt D2 (Tt E2 y1))
 refine RG.doesL .plain rfl (DoesL.app (α:=List UInt64) (ys:=([q1]:List (List UInt64))) v3 V0 (fun _ _=>.t3) el69 rfl rfl (AX A1 F1) (Src.row (α:=List UInt64) V0 .hd (AG (cs:=[P0]) (xs:=(([q1]:List (List UInt64)):List (List UInt64))) V0 L (Ak (cs:=[P0]) (ds:=[]) (Ax G1 y1) (AJ _ _))))) fun A3 u5 ⟨J1,c2,F2,Q2⟩=>Ah rfl<|Aa<|Aw<|Ar<|Ab (Bo (i:=j0) (j:=1) rfl rfl (by omega))<|Ae rfl<|Aa ?_
 obtain ⟨g2,z1⟩:=AQ c2 .d2
 exact K1 (j0 + 1,D3,A3,J1) g2 (Tt B2 (Tt F1 (Tt F2 z1))) (AX Q2 z1) h
 refine Ba rfl ?_
 have h:=V2 _ h
 try dsimp only at h
 refine Ac<|Ae rfl<|Ah rfl<|Aa<|Ao rfl<|Au (u:=c0) M2 func107 rfl (.cons (.tmp rfl) .nil) rfl<|RG.now .plain (Az (news:=[c0]) F0 .t3 rfl rfl rfl (St.c1 (α:=List UInt64) F0 .t1) rfl rfl (o1 (St.o1 (α:=List UInt64) F0 .t1))) fun v5 j2 G2=>AR [vI 0] j2 .t2 (o1 rfl) fun x5 G0 H2=>Aa<|Ao rfl<|RT.callD (vs:=[]) (cap:=[vP p0,vP g0]) (bd 147) func147 rfl rfl rfl fun Z3 B1 Y2=>Ac<|RG.recover0 .plain B1 rfl<|Ah rfl<|Aa<|Ac<|Ae rfl<|Ab (FV.neqI0 underlying20 rfl rfl)<|Aa<|Bj rfl<|Aq<|MX.fin rfl<|RT.leaveD0 B1 Y2 func147 rfl .nil<|Au (u:=.tuple #[c0,vI 0]) b1 func106 rfl (.cons (.one rfl rfl ((G0.memA .t3) 0 _ rfl)) (.cons (.one rfl rfl ((G0.memA .t2) 0 _ rfl)) .nil)) rfl<|Ab (Ag rfl rfl)<|Ab (Ag rfl rfl)<|Ah rfl<|Ah rfl<|Aa<|Ao rfl<|Au (u:=.tuple #[c0,vI 0]) Z0 func67 rfl (.cons (.tmp rfl) (.cons (.tmp rfl) .nil)) rfl<|Ab (Ag rfl rfl)<|Ab (Ag rfl rfl)<|Ah rfl<|Ah rfl<|Aa<|Ao rfl ?_
 have W0:=Bw G0 .t1
 have C4:=Bx G0 .t1
 have k3:=By (α:=List UInt64) (v:=c0) (xs:=t0) W0 L (Bh (α:=List UInt64) G0 .t1 (AX A1 (Tt G2 H2)) hL)
 refine Au hb0 func24 rfl (.cons (.tmp rfl) (.cons (.tmp rfl) .nil)) rfl ?_
 cases h
 exact ⟨W0.ag,fun p q=>⟨c0,rfl,W0.kd k3 q⟩⟩
def bt_p (n:Nat) (a0:Th) (a1:Ta):Option Bool:=
  (ai_p n a0 a1).bind fun b0=>some (decide (b0.length = 1))
theorem bt_c (n:Nat) {L w} (hL:hl L w) (a0:Th) {v0_3:Value} (h0_3:Rep.R w L [v0_3] a0.fw.fm) {v0_4:Value} (h0_4:Rep.R w L [v0_4] a0.fplan) (a1:Ta) (hG0:Glob 0 tab0 w)  {r:Bool} (h:bt_p n a0 a1 = some r) :
 Cl 70 #[.agg #[vI a0.fw.fl,vI a0.fw.fh,vI a0.fw.fj,v0_3,v0_4,vI a0.fk],.agg #[.string a1.fp,vI a1.fu,vU a1.fm]] w (ac w fun _ u=>u = .bool r):=by
 unfold bt_p at h
 refine AF func70 rfl rfl rfl fun _ cs0 hb0=>Ac<|RG.bx (AB w) rfl rfl fun A0 q0 g0 t0=>RG.bx g0 rfl rfl fun B0 s0 b0 u0=>Ah rfl<|Aa<|Ac<|Ab (AH rfl (b0.memA .t1))<|Ab (AH rfl (b0.memA .hd))<|bk h fun c0 p0 h=>jE (bd 68) rfl (e2 rfl rfl) (fun p q=>ai_c n (b0.hL hL q) a0 (b0.km h0_3 q) (b0.km h0_4 q) a1 (hG0.keep (b0.ag.trans q)) p0) rfl fun C0 z0 k0 ⟨y0,hu_,d0⟩=>?_
 subst hu_
 obtain ⟨j0,v0⟩:=b0.agr k0
 have x0:c0.length <= 281474976710656:=AZ d0
 refine Ab (Bd (xs:=c0) underlying75 rfl d0)<|Ab (FV.eqlN (i:=c0.length) (j:=1) rfl rfl)<|Ah rfl<|Aa<|Ao rfl<|AP hb0 func70 rfl rfl ?_
 cases h
 exact j0.gv
end Go.Proofs.YtfccehcnajelgaaGreatDoor
