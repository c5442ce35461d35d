import Derived.Test.YtfccehcnajelgaaGreatDoorUB2
namespace Go.Proofs.YtfccehcnajelgaaGreatDoor
open Go Go.RowKit Tryz
set_option maxRecDepth 4000
set_option maxHeartbeats 4000000

structure Tc where
  ft:ByteArray
  fx:Int
  fh:List Int
  fM:List Int
  fI:List Int
  fv:Bool
  deriving DecidableEq
instance:Rep Tc:=Rep.via (β:=ByteArray × Int × (List Int) × (List Int) × (List Int) × Bool) fun x=>(x.ft,x.fx,x.fh,x.fM,x.fI,x.fv)
structure Te where
  fh:Int
  fe:Int
  fj:Int
  fm:List Tc
  deriving DecidableEq
instance:Rep Te:=Rep.via (β:=Int × Int × Int × (List Tc)) fun x=>(x.fh,x.fe,x.fj,x.fm)
theorem gp:ElT Tryz.prog 72 4 (Rep.size Bool) 1 (.bool false) [.bool false]:=⟨underlying72,by kernel_rfl,rfl,rfl,rfl,rfl⟩
def dr_p (n:Nat) (a0:Te) (a1:Tc):Option Bool:=
  jn (fun (c0,d0)=>(aY_p n a1.ft ⟨#[65,66,67,68,69,70,71,72,73,74,75,76,77,78,79,80,81,82,83,84,85,86,87,88,89,90,97,98,99,100,101,102,103,104,105,106,107,108,109,110,111,112,113,114,115,116,117,118,119,120,121,122,48,49,50,51,52,53,54,55,56,57,45,95]⟩).bind fun g0=>(bI_p n a1.fh a0.fh a1.fx).bind fun j0=>(bI_p n a1.fM a0.fe ((c0:Nat):Int)).bind fun k0=>(bI_p n a1.fI a0.fj ((d0:Nat):Int)).bind fun p0=>(bJ_p n ([(!(decide (a1.ft = ⟨#[]⟩))),(decide (a1.ft.size <= 12)),(decide (g0 = ⟨#[]⟩)),(decide (0 <= a1.fx)),(decide (a1.fx <= ((c0:Nat):Int))),j0,k0,p0]:List Bool)).bind fun q0=>some q0) (fun b0=>(if a1.fv = true then b0 (0,0) else b0 (1000000000,63)))
theorem dr_c (n:Nat) {L w} (hL:hl L w) (a0:Te) {v0_3:Value} (_h0_3:Rep.R w L [v0_3] a0.fm) (a1:Tc) {v1_2:Value} (h1_2:Rep.R w L [v1_2] a1.fh) {v1_3:Value} (h1_3:Rep.R w L [v1_3] a1.fM) {v1_4:Value} (h1_4:Rep.R w L [v1_4] a1.fI)  {r:Bool} (h:dr_p n a0 a1 = some r) :
 Cl 190 #[.agg #[vI a0.fh,vI a0.fe,vI a0.fj,v0_3],.agg #[.string a1.ft,vI a1.fx,v1_2,v1_3,v1_4,.bool a1.fv]] w (ae w fun _ u=>u = .bool r):=by
 unfold dr_p at h
 refine AF func190 rfl rfl rfl fun _ cs0 hb0=>Ae<|RG.bx (AC w) rfl rfl fun R0 x0 B0 K0=>RG.bx B0 rfl rfl fun U0 y0 u0 M0=>Af rfl<|Aa<|Ae<|Af rfl<|Af rfl<|Aa<|Ai<|Ae<|AT 5 rfl<|AL rfl ((u0.memA .hd) 5 _ rfl)<|Aa<|MX.jo (α:=Nat × Nat) (fun ⟨g0,t0⟩=>[(2,vP x0),(3,vP y0),(5,vI ((g0:Nat):Int)),(6,vI ((t0:Nat):Int))]) (fun ⟨g0,t0⟩=>[.cells y0 [.string a1.ft,vI a1.fx,v1_2,v1_3,v1_4,.bool a1.fv] 96,.cells x0 [vI a0.fh,vI a0.fe,vI a0.fj,v0_3] 58]) (fun ⟨g0,t0⟩=>(g0,t0)) u0 h ?_ ?_
 rintro ⟨g0,t0⟩ W0 d0 P0 h
 try dsimp only at h
 refine Ai<|du 40 fun b0 c0=>Rv 0 b0 rfl c0 (fun _=>Be 0 rfl)<|Rx 1 962072674308 b0 rfl c0 (AN rfl ((d0.memA .hd) 0 _ rfl))<|Rv 2 b0 rfl c0 (fun _=>FV.neqS rfl rfl)<|Rv 3 b0 rfl c0 (fun _=>Be 0 rfl)<|Rx 4 962072674400 b0 rfl c0 (AN rfl ((d0.memA .hd) 0 _ rfl))<|Rx 5 962072674368 b0 rfl c0 (Bx underlying9 rfl)<|Rv 6 b0 rfl c0 (fun _=>FV.leqN (i:=a1.ft.size) (j:=12) rfl rfl)<|Rv 7 b0 rfl c0 (fun _=>Be 0 rfl)<|Rx 8 1031882671616 b0 rfl c0 (AN rfl ((d0.memA .hd) 0 _ rfl))<|bk h fun s0 C0 h=>RD.cq 9 1023 1031882671104 (.string s0) b0 rfl c0 (bd 201) rfl (e2 rfl rfl) (fun p q=>aY_c n (d0.hL0 hL q)  C0) rfl<|Rv 10 b0 rfl c0 (fun _=>FV.eqlS rfl rfl)<|Rv 11 b0 rfl c0 (fun _=>Be 1 rfl)<|Rx 12 962072682496 b0 rfl c0 (AN rfl ((d0.memA .hd) 1 _ rfl))<|Rv 13 b0 rfl c0 (fun _=>FV.geq (i:=a1.fx) (j:=0) rfl rfl)<|Rv 14 b0 rfl c0 (fun _=>Be 1 rfl)<|Rx 15 962072805376 b0 rfl c0 (AN rfl ((d0.memA .hd) 1 _ rfl))<|Rv 16 b0 rfl c0 (fun _=>Ah rfl)<|Rv 17 b0 rfl c0 (fun _=>FV.leq (i:=a1.fx) (j:=((g0:Nat):Int)) rfl rfl)<|Rv 18 b0 rfl c0 (fun _=>Be 2 rfl)<|Rx 19 1031882670080 b0 rfl c0 (AN rfl ((d0.memA .hd) 2 _ rfl))<|Rv 20 b0 rfl c0 (fun _=>Be 0 rfl)<|Rx 21 1031882670080 b0 rfl c0 (AN rfl ((d0.memA .t1) 0 _ rfl))<|Rv 22 b0 rfl c0 (fun _=>Be 1 rfl)<|Rx 23 1031882670080 b0 rfl c0 (AN rfl ((d0.memA .hd) 1 _ rfl))<|bk h fun q0 D0 h=>RD.cq 24 33554431 1031865892864 (.bool q0) b0 rfl c0 (bd 202) rfl (e3 rfl rfl rfl) (fun p q=>bI_c n (d0.hL0 hL q) (d0.k0 h1_2 q) D0) rfl<|Rv 25 b0 rfl c0 (fun _=>Be 3 rfl)<|Rx 26 1031865892864 b0 rfl c0 (AN rfl ((d0.memA .hd) 3 _ rfl))<|Rv 27 b0 rfl c0 (fun _=>Be 1 rfl)<|Rx 28 1031865892864 b0 rfl c0 (AN rfl ((d0.memA .t1) 1 _ rfl))<|Rv 29 b0 rfl c0 (fun _=>Ah rfl)<|bk h fun p0 E0 h=>RD.cq 30 2147483647 1030792151040 (.bool p0) b0 rfl c0 (bd 202) rfl (e3 rfl rfl rfl) (fun p q=>bI_c n (d0.hL0 hL q) (d0.k0 h1_3 q) E0) rfl<|Rv 31 b0 rfl c0 (fun _=>Be 4 rfl)<|Rx 32 1030792151040 b0 rfl c0 (AN rfl ((d0.memA .hd) 4 _ rfl))<|Rv 33 b0 rfl c0 (fun _=>Be 2 rfl)<|Rx 34 1030792151040 b0 rfl c0 (AN rfl ((d0.memA .t1) 2 _ rfl))<|Rv 35 b0 rfl c0 (fun _=>Ah rfl)<|bk h fun j0 F0 h=>RD.cq 36 137438953471 962072674304 (.bool j0) b0 rfl c0 (bd 202) rfl (e3 rfl rfl rfl) (fun p q=>bI_c n (d0.hL0 hL q) (d0.k0 h1_4 q) F0) rfl<|BV 37 274877906943 b0 rfl .plain rfl (AJ (α:=Bool) (xs:=([(!(decide (a1.ft = ⟨#[]⟩))),(decide (a1.ft.size <= 12)),(decide (s0 = ⟨#[]⟩)),(decide (0 <= a1.fx)),(decide (a1.fx <= ((g0:Nat):Int))),q0,p0,j0]:List Bool)) (vs:=[.bool (!(decide (a1.ft = ⟨#[]⟩))),.bool (decide (a1.ft.size <= 12)),.bool (decide (s0 = ⟨#[]⟩)),.bool (decide (0 <= a1.fx)),.bool (decide (a1.fx <= ((g0:Nat):Int))),.bool q0,.bool p0,.bool j0]) (ds' :=[.bool (!(decide (a1.ft = ⟨#[]⟩))),.bool (decide (a1.ft.size <= 12)),.bool (decide (s0 = ⟨#[]⟩)),.bool (decide (0 <= a1.fx)),.bool (decide (a1.fx <= ((g0:Nat):Int))),.bool q0,.bool p0,.bool j0]) rfl d0 gp rfl (e8 rfl rfl rfl rfl rfl rfl rfl rfl) (by kernel_rfl) rfl) fun V0 J0 v0 Q0=>?_
 refine bk h fun H0 G0 h=>RD.cq 38 549755813887 549755813888 (.bool H0) b0 rfl c0 (bd 189) rfl (e1 rfl) (fun p q=>bJ_c n (v0.hL0 hL q) (Av (St.lend (α:=Bool) (L:=L) v0 .hd (AB (cs:=[.bool (!(decide (a1.ft = ⟨#[]⟩))),.bool (decide (a1.ft.size <= 12)),.bool (decide (s0 = ⟨#[]⟩)),.bool (decide (0 <= a1.fx)),.bool (decide (a1.fx <= ((g0:Nat):Int))),.bool q0,.bool p0,.bool j0]) (xs:=(([(!(decide (a1.ft = ⟨#[]⟩))),(decide (a1.ft.size <= 12)),(decide (s0 = ⟨#[]⟩)),(decide (0 <= a1.fx)),(decide (a1.fx <= ((g0:Nat):Int))),q0,p0,j0]:List Bool):List Bool)) v0 L (Ax (cs:=[.bool (!(decide (a1.ft = ⟨#[]⟩)))]) (ds:=[.bool (decide (a1.ft.size <= 12)),.bool (decide (s0 = ⟨#[]⟩)),.bool (decide (0 <= a1.fx)),.bool (decide (a1.fx <= ((g0:Nat):Int))),.bool q0,.bool p0,.bool j0]) rfl (Ax (cs:=[.bool (decide (a1.ft.size <= 12))]) (ds:=[.bool (decide (s0 = ⟨#[]⟩)),.bool (decide (0 <= a1.fx)),.bool (decide (a1.fx <= ((g0:Nat):Int))),.bool q0,.bool p0,.bool j0]) rfl (Ax (cs:=[.bool (decide (s0 = ⟨#[]⟩))]) (ds:=[.bool (decide (0 <= a1.fx)),.bool (decide (a1.fx <= ((g0:Nat):Int))),.bool q0,.bool p0,.bool j0]) rfl (Ax (cs:=[.bool (decide (0 <= a1.fx))]) (ds:=[.bool (decide (a1.fx <= ((g0:Nat):Int))),.bool q0,.bool p0,.bool j0]) rfl (Ax (cs:=[.bool (decide (a1.fx <= ((g0:Nat):Int)))]) (ds:=[.bool q0,.bool p0,.bool j0]) rfl (Ax (cs:=[.bool q0]) (ds:=[.bool p0,.bool j0]) rfl (Ax (cs:=[.bool p0]) (ds:=[.bool j0]) rfl (Ax (cs:=[.bool j0]) (ds:=[]) rfl (AG _ _)))))))))) hL) q) G0) rfl<|Rv 39 b0 rfl c0 (fun _=>Bm rfl)<|AR (dk b0)<|Ak rfl<|AQ hb0 func190 rfl rfl ?_
 cases h
 exact v0.gv
 intro I0 z0 h
 try dsimp only at h
 refine MX.ifb rfl h (fun A0 h=>?_) (fun A0 h=>?_)
 refine Am<|Af rfl<|Af rfl<|Aa<|z0 (0,0) u0 (Bw _ _) h
 refine Ap<|z0 (1000000000,63) u0 (Bw _ _) h
theorem bm {w:World} {L:List Nat} {cs:List Value} {x:Tc} (h:Rep.R w L cs x):∃ v2 v3 v4:Value,cs = [.string x.ft,vI x.fx,v2,v3,v4,.bool x.fv]/\Rep.R w L [v2] x.fh/\Rep.R w L [v3] x.fM/\Rep.R w L [v4] x.fI:=by
  obtain ⟨c0,r0,rfl,h0,h⟩:=h
  have e0:c0 = [.string x.ft]:=h0; subst e0
  obtain ⟨c1,r1,rfl,h1,h⟩:=h
  have e1:c1 = [vI x.fx]:=h1; subst e1
  obtain ⟨c2,r2,rfl,h2,h⟩:=h
  obtain ⟨v2,rfl,kv2⟩:=bc (xs:=x.fh) h2
  obtain ⟨c3,r3,rfl,h3,h⟩:=h
  obtain ⟨v3,rfl,kv3⟩:=bc (xs:=x.fM) h3
  obtain ⟨c4,r4,rfl,h4,h⟩:=h
  obtain ⟨v4,rfl,kv4⟩:=bc (xs:=x.fI) h4
  have e5:r4 = [.bool x.fv]:=h; subst e5
  exact ⟨v2,v3,v4,rfl,kv2,kv3,kv4⟩
theorem cR {w:World} {L:List Nat} (a0:ByteArray) (a1:Int) (a2:List Int) {u2:Value} (h2:Rep.R w L [u2] a2) (a3:List Int) {u3:Value} (h3:Rep.R w L [u3] a3) (a4:List Int) {u4:Value} (h4:Rep.R w L [u4] a4) (a5:Bool):Rep.R w L [.string a0,vI a1,u2,u3,u4,.bool a5] (⟨a0,a1,a2,a3,a4,a5⟩:Tc):=⟨[.string a0],[vI a1,u2,u3,u4,.bool a5],rfl,rfl,⟨[vI a1],[u2,u3,u4,.bool a5],rfl,rfl,⟨[u2],[u3,u4,.bool a5],rfl,h2,⟨[u3],[u4,.bool a5],rfl,h3,⟨[u4],[.bool a5],rfl,h4,rfl⟩⟩⟩⟩⟩
def bV_l1 (n:Nat) (a0:Te) (g0:Bool × Nat × (List (ByteArray × Bool)) -> Option (Int ⊕ Unit)):Bool × Nat × (List (ByteArray × Bool)) -> Option (Int ⊕ Unit)
  | (k0,d0,c0)=>(if d0 < a0.fm.length then (a0.fm[d0]?).bind fun b0=>(dr_p n a0 b0).bind fun j0=>(if b0.fv = true then (if 0 < d0 then (bJ_p n ([j0,(!(aB c0 b0.ft false)),true,true]:List Bool)).bind fun p0=>(if p0 = true then g0 (b0.fv,d0 + 1,bh c0 b0.ft true) else some (.inl (161:Int))) else (bJ_p n ([j0,(!(aB c0 b0.ft false)),true,(!b0.fv)]:List Bool)).bind fun q0=>(if q0 = true then g0 (b0.fv,d0 + 1,bh c0 b0.ft true) else some (.inl (161:Int)))) else (if 0 < d0 then (bJ_p n ([j0,(!(aB c0 b0.ft false)),(!k0),true]:List Bool)).bind fun s0=>(if s0 = true then g0 (b0.fv,d0 + 1,bh c0 b0.ft true) else some (.inl (161:Int))) else (bJ_p n ([j0,(!(aB c0 b0.ft false)),(!k0),(!b0.fv)]:List Bool)).bind fun t0=>(if t0 = true then g0 (b0.fv,d0 + 1,bh c0 b0.ft true) else some (.inl (161:Int))))) else some (.inr ()))
def bV_p (n:Nat) (a0:Te):Option Int:=
  (bJ_p n ([(decide (0 <= a0.fh)),(decide (a0.fh <= 6)),(decide (0 <= a0.fe)),(decide (a0.fe <= 12)),(decide (0 <= a0.fj)),(decide (a0.fj <= 3)),(decide (0 < a0.fm.length)),(decide (a0.fm.length <= 64))]:List Bool)).bind fun b0=>(if b0 = true then thn (ah (bV_l1 n a0) n (false,0,([]:List (ByteArray × Bool)))) (fun _=>some (0:Int)) else some (161:Int))
theorem bV_c (n:Nat) {L w} (hL:hl L w) (a0:Te) {v0_3:Value} (h0_3:Rep.R w L [v0_3] a0.fm)  {r:Int} (h:bV_p n a0 = some r) :
 Cl 166 #[.agg #[vI a0.fh,vI a0.fe,vI a0.fj,v0_3]] w (ae w fun _ u=>u = vI r):=by
 unfold bV_p at h
 refine AF func166 rfl rfl rfl fun _ cs0 hb0=>Ae<|RG.bx (AC w) rfl rfl fun P2 H0 u0 G2=>Af rfl<|Aa<|Ae<|AT 3 rfl<|AL rfl ((u0.memA .hd) 3 _ rfl) ?_
 have Q0:=AM h0_3 u0
 have K2:a0.fm.length <= 281474976710656:=AS Q0
 refine Ab (AW (xs:=a0.fm) underlying56 rfl Q0)<|Af rfl<|Aa<|Ai<|Ae<|AT 0 rfl<|AL rfl ((u0.memA .hd) 0 _ rfl)<|Ab (FV.geq (i:=a0.fh) (j:=0) rfl rfl)<|AT 0 rfl<|AL rfl ((u0.memA .hd) 0 _ rfl)<|Ab (FV.leq (i:=a0.fh) (j:=6) rfl rfl)<|AT 1 rfl<|AL rfl ((u0.memA .hd) 1 _ rfl)<|Ab (FV.geq (i:=a0.fe) (j:=0) rfl rfl)<|AT 1 rfl<|AL rfl ((u0.memA .hd) 1 _ rfl)<|Ab (FV.leq (i:=a0.fe) (j:=12) rfl rfl)<|AT 2 rfl<|AL rfl ((u0.memA .hd) 2 _ rfl)<|Ab (FV.geq (i:=a0.fj) (j:=0) rfl rfl)<|AT 2 rfl<|AL rfl ((u0.memA .hd) 2 _ rfl)<|Ab (FV.leq (i:=a0.fj) (j:=3) rfl rfl)<|Ac rfl<|Ab (FV.gtrN (i:=a0.fm.length) (j:=0) rfl rfl)<|Ac rfl<|Ab (FV.leqN (i:=a0.fm.length) (j:=64) rfl rfl)<|Ao .plain rfl (AJ (α:=Bool) (xs:=([(decide (0 <= a0.fh)),(decide (a0.fh <= 6)),(decide (0 <= a0.fe)),(decide (a0.fe <= 12)),(decide (0 <= a0.fj)),(decide (a0.fj <= 3)),(decide (0 < a0.fm.length)),(decide (a0.fm.length <= 64))]:List Bool)) (vs:=[.bool (decide (0 <= a0.fh)),.bool (decide (a0.fh <= 6)),.bool (decide (0 <= a0.fe)),.bool (decide (a0.fe <= 12)),.bool (decide (0 <= a0.fj)),.bool (decide (a0.fj <= 3)),.bool (decide (0 < a0.fm.length)),.bool (decide (a0.fm.length <= 64))]) (ds' :=[.bool (decide (0 <= a0.fh)),.bool (decide (a0.fh <= 6)),.bool (decide (0 <= a0.fe)),.bool (decide (a0.fe <= 12)),.bool (decide (0 <= a0.fj)),.bool (decide (a0.fj <= 3)),.bool (decide (0 < a0.fm.length)),.bool (decide (a0.fm.length <= 64))]) rfl u0 gp rfl (e8 rfl rfl rfl rfl rfl rfl rfl rfl) (by kernel_rfl) rfl) fun Q2 y2 B0 H2=>bk h fun k2 V1 h=>Bk (.bool k2) (bd 189) rfl (e1 rfl) (fun p q=>bJ_c n (B0.hL0 hL q) (Av (St.lend (α:=Bool) (L:=L) B0 .hd (AB (cs:=[.bool (decide (0 <= a0.fh)),.bool (decide (a0.fh <= 6)),.bool (decide (0 <= a0.fe)),.bool (decide (a0.fe <= 12)),.bool (decide (0 <= a0.fj)),.bool (decide (a0.fj <= 3)),.bool (decide (0 < a0.fm.length)),.bool (decide (a0.fm.length <= 64))]) (xs:=(([(decide (0 <= a0.fh)),(decide (a0.fh <= 6)),(decide (0 <= a0.fe)),(decide (a0.fe <= 12)),(decide (0 <= a0.fj)),(decide (a0.fj <= 3)),(decide (0 < a0.fm.length)),(decide (a0.fm.length <= 64))]:List Bool):List Bool)) B0 L (Ax (cs:=[.bool (decide (0 <= a0.fh))]) (ds:=[.bool (decide (a0.fh <= 6)),.bool (decide (0 <= a0.fe)),.bool (decide (a0.fe <= 12)),.bool (decide (0 <= a0.fj)),.bool (decide (a0.fj <= 3)),.bool (decide (0 < a0.fm.length)),.bool (decide (a0.fm.length <= 64))]) rfl (Ax (cs:=[.bool (decide (a0.fh <= 6))]) (ds:=[.bool (decide (0 <= a0.fe)),.bool (decide (a0.fe <= 12)),.bool (decide (0 <= a0.fj)),.bool (decide (a0.fj <= 3)),.bool (decide (0 < a0.fm.length)),.bool (decide (a0.fm.length <= 64))]) rfl (Ax (cs:=[.bool (decide (0 <= a0.fe))]) (ds:=[.bool (decide (a0.fe <= 12)),.bool (decide (0 <= a0.fj)),.bool (decide (a0.fj <= 3)),.bool (decide (0 < a0.fm.length)),.bool (decide (a0.fm.length <= 64))]) rfl (Ax (cs:=[.bool (decide (a0.fe <= 12))]) (ds:=[.bool (decide (0 <= a0.fj)),.bool (decide (a0.fj <= 3)),.bool (decide (0 < a0.fm.length)),.bool (decide (a0.fm.length <= 64))]) rfl (Ax (cs:=[.bool (decide (0 <= a0.fj))]) (ds:=[.bool (decide (a0.fj <= 3)),.bool (decide (0 < a0.fm.length)),.bool (decide (a0.fm.length <= 64))]) rfl (Ax (cs:=[.bool (decide (a0.fj <= 3))]) (ds:=[.bool (decide (0 < a0.fm.length)),.bool (decide (a0.fm.length <= 64))]) rfl (Ax (cs:=[.bool (decide (0 < a0.fm.length))]) (ds:=[.bool (decide (a0.fm.length <= 64))]) rfl (Ax (cs:=[.bool (decide (a0.fm.length <= 64))]) (ds:=[]) rfl (AG _ _)))))))))) hL) q) V1) rfl<|Ab (Bp rfl)<|Aa<|BU rfl h (fun X0 h=>?_) (fun X0 h=>?_)
 refine Ap<|Ae<|Ao .plain rfl (Does.makeMap (κ:=ByteArray) (ν:=Bool) B0) fun X2 I0 G0 J2=>Af rfl<|Aa<|Ae<|Af rfl<|Aa<|Ai<|Ae<|AT 3 rfl<|AL rfl ((G0.memA .t2) 3 _ rfl)<|Ab (AW (xs:=a0.fm) underlying56 rfl (AM h0_3 G0))<|Ac rfl<|Aa<|Au ?_
 obtain ⟨p1,I2⟩:=AH G0 (.a0 .d1)
 refine tn h fun M2 Q1 C0=>BT (α:=Bool × Nat × (List (ByteArray × Bool))) (fun ⟨p0,q0,g0⟩=>[(1,vP H0),(4,.map (some I0)),(5,.bool p0),(38,v0_3),(39,vI ((a0.fm.length:Nat):Int)),(40,vI ((q0:Nat):Int))]) (fun ⟨p0,q0,g0⟩=>[.obj I0 (cr (g0:List (ByteArray × Bool))),.cells H0 [vI a0.fh,vI a0.fe,vI a0.fj,v0_3] 58]) (fun ⟨p0,q0,g0⟩=>(p0,q0,g0)) (false,0,([]:List (ByteArray × Bool))) Q1 p1 ?_
 rintro x2 ⟨p0,q0,g0⟩ j3 D0 F0 E0 h
 unfold bV_l1 at h
 try dsimp only at h
 refine Ae<|Ab (Bj (i:=q0) (j:=a0.fm.length) rfl rfl)<|Aa<|Ai<|AO rfl h (fun W0 h=>?_) (fun W0 h=>?_)
 refine Ap<|Ai<|Au<|Ae<|Ac rfl<|bk h fun b0 U1 h=>?_
 obtain ⟨v2,E2,K1,M1,F2,R1,P1⟩:=Bg (AM h0_3 F0) U1
 obtain ⟨c2,g2,j2,rfl,R0,U0,V0⟩:=bm R1
 refine Ab (Bi 6 q0 rfl K1 rfl rfl M1)<|Ab (AK rfl P1)<|RG.nl [.string ⟨#[]⟩,vI 0,vN,vN,vN,.bool false] F0 fun R2 z2 q1 t0=>Af rfl<|AX [.string b0.ft,vI b0.fx,c2,g2,j2,.bool b0.fv] q1 .hd (o6 rfl rfl (AY (Aq R0 t0)) (AY (Aq U0 t0)) (AY (Aq V0 t0)) rfl) fun U2 s0 v0=>Aa<|Ai<|Ai<|du 24 fun c0 d0=>Rx 0 16727044 c0 rfl d0 (AK rfl (s0.memA .t2))<|Rx 1 16727044 c0 rfl d0 (AK rfl (s0.memA .hd))<|bk h fun j0 W1 h=>RD.cq 2 7 16727040 (.bool j0) c0 rfl d0 (bd 190) rfl (e2 rfl rfl) (fun p q=>dr_c n (s0.hL0 hL q) a0 (s0.k0 h0_3 q) b0 (s0.kd (Aq R0 (Tt t0 v0)) q) (s0.kd (Aq U0 (Tt t0 v0)) q) (s0.kd (Aq V0 (Tt t0 v0)) q) W1) rfl<|Rv 3 c0 rfl d0 (fun _=>Ah rfl)<|Rv 4 c0 rfl d0 (fun _=>Be 0 rfl)<|Rx 5 14680256 c0 rfl d0 (AN rfl ((s0.memA .hd) 0 _ rfl))<|Rx 6 14680192 c0 rfl d0 (FV.lookup (kv:=b0.ft) (z:=false) s0 .t1 underlying104 underlying9 rfl rfl rfl rfl)<|Rv 7 c0 rfl d0 (fun _=>Bp rfl)<|Rv 8 c0 rfl d0 (fun _=>Be 5 rfl)<|Rx 9 16727040 c0 rfl d0 (AN rfl ((s0.memA .hd) 5 _ rfl))<|Rv 10 c0 rfl d0 (fun _=>Ah rfl)<|RD.ifb (s:=55) rfl h (fun Y0 h=>?_) (fun Y0 h=>?_)
 refine Bz 8191 11 [(11,56),(12,57)] (F:=[(55,true)]) (U:=[]) c0 d0 (.cons rfl .nil) .nil ?_
 dsimp only [aP,List.map]
 refine Rv 13 c0 rfl d0 (fun _=>BP rfl rfl)<|Rv 14 c0 rfl d0 (fun _=>Ah rfl)<|Rv 15 c0 rfl d0 (fun _=>FV.gtrN (i:=q0) (j:=0) rfl rfl)<|Rv 16 c0 rfl d0 (fun _=>Ah rfl)<|RD.ifd (s:=61) rfl h (fun Z0 h=>?_) (fun Z0 h=>?_)
 refine Bz 1048575 4 [(17,62),(18,63),(19,64)] (F:=[(61,true)]) (U:=[]) c0 d0 (.cons rfl .nil) .nil ?_
 dsimp only [aP,List.map]
 refine Rv 20 c0 rfl d0 (fun _=>BP rfl rfl)<|BV 21 4194303 c0 rfl .plain rfl (AJ (α:=Bool) (xs:=([j0,(!(aB g0 b0.ft false)),true,true]:List Bool)) (vs:=[.bool j0,.bool (!(aB g0 b0.ft false)),.bool true,.bool true]) (ds' :=[.bool j0,.bool (!(aB g0 b0.ft false)),.bool true,.bool true]) rfl s0 gp rfl (e4 rfl rfl rfl rfl) (by kernel_rfl) rfl) fun V2 A2 x0 y1=>bk h fun p2 X1 h=>RD.cq 22 8388607 8388608 (.bool p2) c0 rfl d0 (bd 189) rfl (e1 rfl) (fun p q=>bJ_c n (x0.hL0 hL q) (Av (St.lend (α:=Bool) (L:=L) x0 .hd (AB (cs:=[.bool j0,.bool (!(aB g0 b0.ft false)),.bool true,.bool true]) (xs:=(([j0,(!(aB g0 b0.ft false)),true,true]:List Bool):List Bool)) x0 L (Ax (cs:=[.bool j0]) (ds:=[.bool (!(aB g0 b0.ft false)),.bool true,.bool true]) rfl (Ax (cs:=[.bool (!(aB g0 b0.ft false))]) (ds:=[.bool true,.bool true]) rfl (Ax (cs:=[.bool true]) (ds:=[.bool true]) rfl (Ax (cs:=[.bool true]) (ds:=[]) rfl (AG _ _)))))) hL) q) X1) rfl<|Rv 23 c0 rfl d0 (fun _=>Bp rfl)<|AR (dk c0)<|BU rfl h (fun b1 h=>?_) (fun b1 h=>?_)
 refine Ap<|Ae<|Ac rfl<|AT 0 rfl<|AL rfl ((x0.memA .t1) 0 _ rfl)<|RG.now .plain (Acts.mapUpdate (kv:=b0.ft) (vv:=true) x0 .t2 underlying104 underlying9 rfl rfl rfl rfl) fun W2 J0 z1=>Aa<|Am<|AT 5 rfl<|AL rfl ((J0.memA .t1) 5 _ rfl)<|Af rfl<|Aa<|Aw<|Am<|Ab (Bf (i:=q0) (j:=1) rfl rfl (by omega))<|Ac rfl<|Aa ?_
 obtain ⟨s1,A1⟩:=AH J0 .d2
 exact D0 (b0.fv,q0 + 1,bh g0 b0.ft true) s1 (Tt E0 (Tt t0 (Tt v0 (Tt y1 (Tt z1 A1))))) h
 refine Ae<|Af rfl<|Aa ?_
 have h:=ap h C0
 refine Ak rfl<|AQ hb0 func166 rfl rfl ?_
 cases h
 exact x0.gv
 refine RD.vP 17 262143 c0 rfl d0 (.yes rfl rfl) (fun _=>Be 5 rfl) rfl<|RD.val (i:=18) (m' :=524287) (W:=16252928) (tk c0) rfl d0 (.yes rfl rfl) (AN rfl ((s0.memA .hd) 5 _ rfl)) rfl<|RD.vP 19 1048575 c0 rfl d0 (.yes rfl rfl) (fun _=>Bp rfl) rfl<|Rv 20 c0 rfl d0 (fun _=>Bc rfl rfl)<|BV 21 4194303 c0 rfl .plain rfl (AJ (α:=Bool) (xs:=([j0,(!(aB g0 b0.ft false)),true,(!b0.fv)]:List Bool)) (vs:=[.bool j0,.bool (!(aB g0 b0.ft false)),.bool true,.bool (!b0.fv)]) (ds' :=[.bool j0,.bool (!(aB g0 b0.ft false)),.bool true,.bool (!b0.fv)]) rfl s0 gp rfl (e4 rfl rfl rfl rfl) (by kernel_rfl) rfl) fun Y2 B2 y0 B1=>bk h fun q2 Y1 h=>RD.cq 22 8388607 8388608 (.bool q2) c0 rfl d0 (bd 189) rfl (e1 rfl) (fun p q=>bJ_c n (y0.hL0 hL q) (Av (St.lend (α:=Bool) (L:=L) y0 .hd (AB (cs:=[.bool j0,.bool (!(aB g0 b0.ft false)),.bool true,.bool (!b0.fv)]) (xs:=(([j0,(!(aB g0 b0.ft false)),true,(!b0.fv)]:List Bool):List Bool)) y0 L (Ax (cs:=[.bool j0]) (ds:=[.bool (!(aB g0 b0.ft false)),.bool true,.bool (!b0.fv)]) rfl (Ax (cs:=[.bool (!(aB g0 b0.ft false))]) (ds:=[.bool true,.bool (!b0.fv)]) rfl (Ax (cs:=[.bool true]) (ds:=[.bool (!b0.fv)]) rfl (Ax (cs:=[.bool (!b0.fv)]) (ds:=[]) rfl (AG _ _)))))) hL) q) Y1) rfl<|Rv 23 c0 rfl d0 (fun _=>Bp rfl)<|AR (dk c0)<|BU rfl h (fun c1 h=>?_) (fun c1 h=>?_)
 refine Ap<|Ae<|Ac rfl<|AT 0 rfl<|AL rfl ((y0.memA .t1) 0 _ rfl)<|RG.now .plain (Acts.mapUpdate (kv:=b0.ft) (vv:=true) y0 .t2 underlying104 underlying9 rfl rfl rfl rfl) fun Z2 K0 C1=>Aa<|Am<|AT 5 rfl<|AL rfl ((K0.memA .t1) 5 _ rfl)<|Af rfl<|Aa<|Aw<|Am<|Ab (Bf (i:=q0) (j:=1) rfl rfl (by omega))<|Ac rfl<|Aa ?_
 obtain ⟨u1,D1⟩:=AH K0 .d2
 exact D0 (b0.fv,q0 + 1,bh g0 b0.ft true) u1 (Tt E0 (Tt t0 (Tt v0 (Tt B1 (Tt C1 D1))))) h
 refine Ae<|Af rfl<|Aa ?_
 have h:=ap h C0
 refine Ak rfl<|AQ hb0 func166 rfl rfl ?_
 cases h
 exact y0.gv
 refine RD.vP 11 4095 c0 rfl d0 (.yes rfl rfl) (fun _=>Ah rfl) rfl<|RD.vP 12 8191 c0 rfl d0 (.yes rfl rfl) (fun _=>Bp rfl) rfl<|Rv 13 c0 rfl d0 (fun _=>Bc rfl rfl)<|Rv 14 c0 rfl d0 (fun _=>Ah rfl)<|Rv 15 c0 rfl d0 (fun _=>FV.gtrN (i:=q0) (j:=0) rfl rfl)<|Rv 16 c0 rfl d0 (fun _=>Ah rfl)<|RD.ifd (s:=61) rfl h (fun g1 h=>?_) (fun g1 h=>?_)
 refine Bz 1048575 4 [(17,62),(18,63),(19,64)] (F:=[(61,true)]) (U:=[]) c0 d0 (.cons rfl .nil) .nil ?_
 dsimp only [aP,List.map]
 refine Rv 20 c0 rfl d0 (fun _=>BP rfl rfl)<|BV 21 4194303 c0 rfl .plain rfl (AJ (α:=Bool) (xs:=([j0,(!(aB g0 b0.ft false)),(!p0),true]:List Bool)) (vs:=[.bool j0,.bool (!(aB g0 b0.ft false)),.bool (!p0),.bool true]) (ds' :=[.bool j0,.bool (!(aB g0 b0.ft false)),.bool (!p0),.bool true]) rfl s0 gp rfl (e4 rfl rfl rfl rfl) (by kernel_rfl) rfl) fun b3 C2 z0 E1=>bk h fun s2 Z1 h=>RD.cq 22 8388607 8388608 (.bool s2) c0 rfl d0 (bd 189) rfl (e1 rfl) (fun p q=>bJ_c n (z0.hL0 hL q) (Av (St.lend (α:=Bool) (L:=L) z0 .hd (AB (cs:=[.bool j0,.bool (!(aB g0 b0.ft false)),.bool (!p0),.bool true]) (xs:=(([j0,(!(aB g0 b0.ft false)),(!p0),true]:List Bool):List Bool)) z0 L (Ax (cs:=[.bool j0]) (ds:=[.bool (!(aB g0 b0.ft false)),.bool (!p0),.bool true]) rfl (Ax (cs:=[.bool (!(aB g0 b0.ft false))]) (ds:=[.bool (!p0),.bool true]) rfl (Ax (cs:=[.bool (!p0)]) (ds:=[.bool true]) rfl (Ax (cs:=[.bool true]) (ds:=[]) rfl (AG _ _)))))) hL) q) Z1) rfl<|Rv 23 c0 rfl d0 (fun _=>Bp rfl)<|AR (dk c0)<|BU rfl h (fun j1 h=>?_) (fun j1 h=>?_)
 refine Ap<|Ae<|Ac rfl<|AT 0 rfl<|AL rfl ((z0.memA .t1) 0 _ rfl)<|RG.now .plain (Acts.mapUpdate (kv:=b0.ft) (vv:=true) z0 .t2 underlying104 underlying9 rfl rfl rfl rfl) fun c3 M0 F1=>Aa<|Am<|AT 5 rfl<|AL rfl ((M0.memA .t1) 5 _ rfl)<|Af rfl<|Aa<|Aw<|Am<|Ab (Bf (i:=q0) (j:=1) rfl rfl (by omega))<|Ac rfl<|Aa ?_
 obtain ⟨v1,G1⟩:=AH M0 .d2
 exact D0 (b0.fv,q0 + 1,bh g0 b0.ft true) v1 (Tt E0 (Tt t0 (Tt v0 (Tt E1 (Tt F1 G1))))) h
 refine Ae<|Af rfl<|Aa ?_
 have h:=ap h C0
 refine Ak rfl<|AQ hb0 func166 rfl rfl ?_
 cases h
 exact z0.gv
 refine RD.vP 17 262143 c0 rfl d0 (.yes rfl rfl) (fun _=>Be 5 rfl) rfl<|RD.val (i:=18) (m' :=524287) (W:=16252928) (tk c0) rfl d0 (.yes rfl rfl) (AN rfl ((s0.memA .hd) 5 _ rfl)) rfl<|RD.vP 19 1048575 c0 rfl d0 (.yes rfl rfl) (fun _=>Bp rfl) rfl<|Rv 20 c0 rfl d0 (fun _=>Bc rfl rfl)<|BV 21 4194303 c0 rfl .plain rfl (AJ (α:=Bool) (xs:=([j0,(!(aB g0 b0.ft false)),(!p0),(!b0.fv)]:List Bool)) (vs:=[.bool j0,.bool (!(aB g0 b0.ft false)),.bool (!p0),.bool (!b0.fv)]) (ds' :=[.bool j0,.bool (!(aB g0 b0.ft false)),.bool (!p0),.bool (!b0.fv)]) rfl s0 gp rfl (e4 rfl rfl rfl rfl) (by kernel_rfl) rfl) fun d3 D2 A0 H1=>bk h fun u2 b2 h=>RD.cq 22 8388607 8388608 (.bool u2) c0 rfl d0 (bd 189) rfl (e1 rfl) (fun p q=>bJ_c n (A0.hL0 hL q) (Av (St.lend (α:=Bool) (L:=L) A0 .hd (AB (cs:=[.bool j0,.bool (!(aB g0 b0.ft false)),.bool (!p0),.bool (!b0.fv)]) (xs:=(([j0,(!(aB g0 b0.ft false)),(!p0),(!b0.fv)]:List Bool):List Bool)) A0 L (Ax (cs:=[.bool j0]) (ds:=[.bool (!(aB g0 b0.ft false)),.bool (!p0),.bool (!b0.fv)]) rfl (Ax (cs:=[.bool (!(aB g0 b0.ft false))]) (ds:=[.bool (!p0),.bool (!b0.fv)]) rfl (Ax (cs:=[.bool (!p0)]) (ds:=[.bool (!b0.fv)]) rfl (Ax (cs:=[.bool (!b0.fv)]) (ds:=[]) rfl (AG _ _)))))) hL) q) b2) rfl<|Rv 23 c0 rfl d0 (fun _=>Bp rfl)<|AR (dk c0)<|BU rfl h (fun k1 h=>?_) (fun k1 h=>?_)
 refine Ap<|Ae<|Ac rfl<|AT 0 rfl<|AL rfl ((A0.memA .t1) 0 _ rfl)<|RG.now .plain (Acts.mapUpdate (kv:=b0.ft) (vv:=true) A0 .t2 underlying104 underlying9 rfl rfl rfl rfl) fun g3 P0 I1=>Aa<|Am<|AT 5 rfl<|AL rfl ((P0.memA .t1) 5 _ rfl)<|Af rfl<|Aa<|Aw<|Am<|Ab (Bf (i:=q0) (j:=1) rfl rfl (by omega))<|Ac rfl<|Aa ?_
 obtain ⟨x1,J1⟩:=AH P0 .d2
 exact D0 (b0.fv,q0 + 1,bh g0 b0.ft true) x1 (Tt E0 (Tt t0 (Tt v0 (Tt H1 (Tt I1 J1))))) h
 refine Ae<|Af rfl<|Aa ?_
 have h:=ap h C0
 refine Ak rfl<|AQ hb0 func166 rfl rfl ?_
 cases h
 exact A0.gv
 refine AV rfl ?_
 have h:=aA h C0
 try dsimp only at h
 refine Ae<|Af rfl<|Aa<|Ak rfl<|AQ hb0 func166 rfl rfl ?_
 cases h
 exact F0.gv
 refine Ae<|Af rfl<|Aa<|Ak rfl<|AQ hb0 func166 rfl rfl ?_
 cases h
 exact B0.gv
def ar_p (n:Nat) (a0:Bool) (a1:Int):Option (Except Th Unit):=
  (if a0 = true then (cW_p n a1).bind fun y2=>exc y2 (fun _y11=>some (.ok ())) (fun b0=>some (.error b0)) else some (.ok ()))
theorem ar_c (n:Nat) {L w} (hL:hl L w) {a0:Bool} {a1:Int}  {r:Except Th Unit} (h:ar_p n a0 a1 = some r) :
 Cl 167 #[.bool a0,vI a1] w (bj w (fun (_y:Unit) _ u=>u = .tuple #[]) (fun e=>.iface 237 (.agg #[vI e.fF])) r):=by
 unfold ar_p at h
 have hS0:=AC w
 refine MX.startP func167 rfl rfl rfl fun _ cs0 hb0 hp0=>Ae<|Ac rfl<|Aa<|MX.ifb rfl h (fun c1 h=>?_) (fun c1 h=>?_)
 refine Am<|Ac rfl<|xk h (fun d0 hy2 h=>?_) (fun k0 hy2 h=>?_)
 refine BQ (fst:=[]) (cap:=[]) .plain (bd 165) rfl (e1 rfl) (fun p q=>cW_c n (hS0.hL0 hL q)  hy2) fun j0 c0=>?_
 obtain ⟨b0,g0⟩:=hS0.agr c0
 cases h
 exact BD hp0 func167 ⟨b0.ag,rfl⟩
 refine Bk (.tuple #[]) (bd 165) rfl (e1 rfl) (fun p q=>BC (cW_c n (hS0.hL0 hL q)  hy2)) rfl<|Aa<|MX.fin rfl<|Ar hb0 func167 rfl .nil rfl ?_
 cases h
 exact ⟨hS0.ag,fun p q=>aX rfl⟩
 refine Ap<|MX.fin rfl<|Ar hb0 func167 rfl .nil rfl ?_
 cases h
 exact ⟨hS0.ag,fun p q=>aX rfl⟩
structure To where
  fH:Te
  fk:Int
  deriving DecidableEq
instance:Rep To:=Rep.via (β:=Te × Int) fun x=>(x.fH,x.fk)
def cY_p (n:Nat) (a0:Te) (a1:Int):Option (Except Th To):=
  (bV_p n a0).bind fun g0=>(cW_p n g0).bind fun j0=>exc j0 (fun _y23=>(if a1 < 1 then (ar_p n true (2:Int)).bind fun k0=>exc k0 (fun _y32=>some (.ok (⟨a0,a1⟩:To))) (fun c0=>some (.error c0)) else (ar_p n (decide (8 < a1)) (2:Int)).bind fun p0=>exc p0 (fun _y47=>some (.ok (⟨a0,a1⟩:To))) (fun d0=>some (.error d0)))) (fun b0=>some (.error b0))
theorem cY_c (n:Nat) {L w} (hL:hl L w) (a0:Te) {v0_3:Value} (h0_3:Rep.R w L [v0_3] a0.fm) {a1:Int}  {r:Except Th To} (h:cY_p n a0 a1 = some r) :
 Cl 131 #[.agg #[vI a0.fh,vI a0.fe,vI a0.fj,v0_3],vI a1] w (bj w (fun (y:To) w' u=>∃ v0_3:Value,u = .agg #[vI y.fH.fh,vI y.fH.fe,vI y.fH.fj,v0_3,vI y.fk]/\Rep.R w' L [v0_3] y.fH.fm) (fun e=>.iface 237 (.agg #[vI e.fF])) r):=by
 unfold cY_p at h
 refine MX.startP func131 rfl rfl rfl fun _ cs0 hb0 hp0=>Ae<|RG.bx (AC w) rfl rfl fun c1 I0 u0 U0=>RG.nl [vI 0,vI 0,vI 0,vN,vI 0] u0 fun d1 J0 b0 V0=>Aa<|Ae<|Ab (AK rfl (b0.memA .t1))<|bk h fun F0 E0 h=>Bk (vI F0) (bd 166) rfl (e1 rfl) (fun p q=>bV_c n (b0.hL0 hL q) a0 (b0.k0 h0_3 q) E0) rfl<|xk h (fun P0 g0 h=>?_) (fun s1 g0 h=>?_)
 refine BQ (fst:=[]) (cap:=[]) .plain (bd 165) rfl (e1 rfl) (fun p q=>cW_c n (b0.hL0 hL q)  g0) fun g1 z0=>?_
 obtain ⟨v0,W0⟩:=b0.agr z0
 cases h
 exact BD hp0 func131 ⟨v0.ag,rfl⟩
 refine Bk (.tuple #[]) (bd 165) rfl (e1 rfl) (fun p q=>BC (cW_c n (b0.hL0 hL q)  g0)) rfl<|Aa<|Ae<|Ac rfl<|Ab (BO (i:=a1) (j:=1) rfl rfl)<|Ac rfl<|Bv (s:=10) rfl h (fun t0 h=>?_) (fun t0 h=>?_)
 refine Al<|Al<|Bl rfl rfl<|xk h (fun Q0 j0 h=>?_) (fun u1 j0 h=>?_)
 refine BQ (fst:=[]) (cap:=[]) .plain (bd 167) rfl (e2 rfl rfl) (fun p q=>ar_c n (b0.hL0 hL q)  j0) fun j1 A0=>?_
 obtain ⟨x0,X0⟩:=b0.agr A0
 cases h
 exact BD hp0 func131 ⟨x0.ag,rfl⟩
 refine Bk (.tuple #[]) (bd 167) rfl (e2 rfl rfl) (fun p q=>BC (ar_c n (b0.hL0 hL q)  j0)) rfl<|Aa<|Ae<|Ab (AK rfl (b0.memA .t1))<|Ac rfl ?_
 have q0:=AM h0_3 b0
 obtain ⟨G0,K0,C0,_⟩:=BI q0
 refine Ab (AU (vs:=[.agg #[vI a0.fh,vI a0.fe,vI a0.fj,v0_3],vI a1]) (u:=.agg #[vI a0.fh,vI a0.fe,vI a0.fj,v0_3,vI a1]) (e2 rfl rfl) (fun p=>by rw [C0]; try kernel_rfl))<|AX [vI a0.fh,vI a0.fe,vI a0.fj,v0_3,vI a1] b0 .hd (o5 rfl rfl rfl (AY q0) rfl) fun k1 c0 Y0=>Aa<|Ak rfl<|Ar hb0 func131 rfl (.cons (.many (cs:=[vI a0.fh,vI a0.fe,vI a0.fj,v0_3,vI a1]) rfl rfl (c0.memA .hd)) .nil) rfl ?_
 cases h
 exact ⟨c0.ag,fun p q=>aX ⟨v0_3,rfl,c0.k0 h0_3 q⟩⟩
 refine Az (Ah rfl)<|Az (FV.gtr (i:=a1) (j:=8) rfl rfl)<|Bn rfl rfl<|xk h (fun R0 p0 h=>?_) (fun v1 p0 h=>?_)
 refine BQ (fst:=[]) (cap:=[]) .plain (bd 167) rfl (e2 rfl rfl) (fun p q=>ar_c n (b0.hL0 hL q)  p0) fun p1 B0=>?_
 obtain ⟨y0,Z0⟩:=b0.agr B0
 cases h
 exact BD hp0 func131 ⟨y0.ag,rfl⟩
 refine Bk (.tuple #[]) (bd 167) rfl (e2 rfl rfl) (fun p q=>BC (ar_c n (b0.hL0 hL q)  p0)) rfl<|Aa<|Ae<|Ab (AK rfl (b0.memA .t1))<|Ac rfl ?_
 have s0:=AM h0_3 b0
 obtain ⟨H0,M0,D0,_⟩:=BI s0
 refine Ab (AU (vs:=[.agg #[vI a0.fh,vI a0.fe,vI a0.fj,v0_3],vI a1]) (u:=.agg #[vI a0.fh,vI a0.fe,vI a0.fj,v0_3,vI a1]) (e2 rfl rfl) (fun p=>by rw [D0]; try kernel_rfl))<|AX [vI a0.fh,vI a0.fe,vI a0.fj,v0_3,vI a1] b0 .hd (o5 rfl rfl rfl (AY s0) rfl) fun q1 d0 b1=>Aa<|Ak rfl<|Ar hb0 func131 rfl (.cons (.many (cs:=[vI a0.fh,vI a0.fe,vI a0.fj,v0_3,vI a1]) rfl rfl (d0.memA .hd)) .nil) rfl ?_
 cases h
 exact ⟨d0.ag,fun p q=>aX ⟨v0_3,rfl,d0.k0 h0_3 q⟩⟩
theorem dI_c (_n:Nat) {L w} (_hL:hl L w) (a0:To) {v0_3:Value} (_h0_3:Rep.R w L [v0_3] a0.fH.fm)  :
 Cl 168 #[.agg #[vI a0.fH.fh,vI a0.fH.fe,vI a0.fH.fj,v0_3,vI a0.fk]] w (ae w fun w' u=>∃ b0:Nat,u = .func (.func 191) #[] #[vP b0]/\St w w' [.cells b0 [vI a0.fH.fh,vI a0.fH.fe,vI a0.fH.fj,v0_3,vI a0.fk] 206]):=by
 refine AF func168 rfl rfl rfl fun _ cs0 hb0=>Ae<|RG.bx (AC w) rfl rfl fun g0 b0 c0 d0=>Af rfl<|Aa<|Ae<|Ab (FV.makeFunc (vs:=[]) (us:=[vP b0]) am (e1 rfl))<|Af rfl<|Aa<|Ak rfl<|Ar (u:=.func (.func 191) #[] #[vP b0]) hb0 func168 rfl (.cons (.tmp rfl) .nil) rfl<|⟨c0.ag,fun p q=>⟨b0,rfl,c0.agree q⟩⟩
def aj_l1 (n:Nat) (a1:List Int) (a0:To) (g0:Nat × (List (Int × Bool)) -> Option ((Except Th Unit) ⊕ (List (Int × Bool)))):Nat × (List (Int × Bool)) -> Option ((Except Th Unit) ⊕ (List (Int × Bool)))
  | (b0,d0)=>(if b0 < a1.length then (a1[b0]?).bind fun c0=>(if c0 < 0 then (ar_p n true (220:Int)).bind fun p0=>exc p0 (fun _y289=>g0 (b0 + 1,bh d0 c0 true)) (fun j0=>some (.inl (.error j0))) else (ar_p n (decide (a0.fk <= c0)) (220:Int)).bind fun q0=>exc q0 (fun _y305=>g0 (b0 + 1,bh d0 c0 true)) (fun k0=>some (.inl (.error k0)))) else some (.inr d0))
def aj_l2 (n:Nat) (a1:List Int) (a0:To) (g0:Nat × (List (Int × Bool)) -> Option ((Except Th Unit) ⊕ (List (Int × Bool)))):Nat × (List (Int × Bool)) -> Option ((Except Th Unit) ⊕ (List (Int × Bool)))
  | (b0,d0)=>(if b0 < a1.length then (a1[b0]?).bind fun c0=>(if c0 < 0 then (ar_p n true (220:Int)).bind fun p0=>exc p0 (fun _y467=>g0 (b0 + 1,bh d0 c0 true)) (fun j0=>some (.inl (.error j0))) else (ar_p n (decide (a0.fk <= c0)) (220:Int)).bind fun q0=>exc q0 (fun _y483=>g0 (b0 + 1,bh d0 c0 true)) (fun k0=>some (.inl (.error k0)))) else some (.inr d0))
def aj_l3 (n:Nat) (a0:To) (a1:List Int) (g0:Nat × Int -> Option ((Except Th Unit) ⊕ Int)):Nat × Int -> Option ((Except Th Unit) ⊕ Int)
  | (b0,c0)=>(if b0 < a0.fH.fm.length then (a0.fH.fm[b0]?).bind fun q0=>(if q0.fv = true then ((ar_p n (!(decide (((a1.length:Nat):Int) = c0))) (220:Int)).bind fun s0=>exc s0 (fun _y184=>thn (ah (aj_l1 n a1 a0) n (0,([]:List (Int × Bool)))) (fun d0=>(ar_p n (!(decide (((d0.length:Nat):Int) = a0.fk))) (220:Int)).bind fun t0=>exc t0 (fun _y321=>some (.ok ())) (fun k0=>some (.error k0)))) (fun j0=>some (.error j0))).map .inl else (chk (c0 + 1)).bind fun p0=>g0 (b0 + 1,p0)) else some (.inr c0))
def aj_p (n:Nat) (a0:To) (a1:List Int):Option (Except Th Unit):=
  thn (ah (aj_l3 n a0 a1) n (0,0)) (fun k0=>(ar_p n (!(decide (((a1.length:Nat):Int) = k0))) (220:Int)).bind fun g0=>exc g0 (fun _y362=>thn (ah (aj_l2 n a1 a0) n (0,([]:List (Int × Bool)))) (fun b0=>(ar_p n (!(decide (((b0.length:Nat):Int) = a0.fk))) (220:Int)).bind fun j0=>exc j0 (fun _y499=>some (.ok ())) (fun d0=>some (.error d0)))) (fun c0=>some (.error c0)))
theorem aj_c (n:Nat) {L w} (hL:hl L w) (a0:To) {v0_3:Value} (h0_3:Rep.R w L [v0_3] a0.fH.fm) {a1:List Int} {v1_0:Value} (h1_0:Rep.R w L [v1_0] a1)  {r:Except Th Unit} (h:aj_p n a0 a1 = some r) :
 Cl 132 #[.agg #[vI a0.fH.fh,vI a0.fH.fe,vI a0.fH.fj,v0_3,vI a0.fk],v1_0] w (bj w (fun (_y:Unit) _ u=>u = .tuple #[]) (fun e=>.iface 237 (.agg #[vI e.fF])) r):=by
 unfold aj_p at h
 refine MX.startP func132 rfl rfl rfl fun _ cs0 hb0 hp0=>Ae<|RG.bx (AC w) rfl rfl fun y6 y0 P1 Y4=>Aa<|Ae<|RG.nl [vI 0] P1 fun z6 C1 R1 c5=>AX [vI 0] R1 .hd (o1 rfl) fun x4 B0 p5=>Aa<|Ai<|Ae<|Ab (AK rfl (B0.memA .t1))<|jE (bd 168) rfl (e1 rfl) (fun p q=>Calls.gives (dI_c n (B0.hL hL q) a0 (B0.km h0_3 q)) fun (w8:World) (u8:Value) ⟨b0_,hu_,s_⟩=>(⟨b0_,hu_,s_.from q⟩:∃ z0:Nat,u8 = Value.func (.func 191) #[] #[vP z0]/\St x4 w8 [.cells z0 [vI a0.fH.fh,vI a0.fH.fe,vI a0.fH.fj,v0_3,vI a0.fk] 206])) rfl fun G6 x6 g6 ⟨z0,k4,x1⟩=>?_
 subst k4
 have x5:=iW B0 x1
 refine Aa<|Au<|MX.rangeP (lb:=[vP z0]) rfl (ee B0 x1) rfl (bd 191) func191 rfl rfl rfl fun w32 v1 D0 u4 K4 F0 F5 v4 k1 s6=>Ae<|AT 0 rfl<|AT 3 rfl<|AL rfl ((eS (F0.memA .t2) 0) 3 _ rfl) ?_
 have u1:=AM h0_3 F0
 have p6:a0.fH.fm.length <= 281474976710656:=AS u1
 refine Ab (AW (xs:=a0.fH.fm) underlying56 rfl u1)<|Ac rfl<|Aa<|Au<|tn h fun t6 V3 p1=>BT (α:=Nat × Int) (fun ⟨j0,q0⟩=>[(0,.func (.yield v1) #[] #[]),(7,v0_3),(8,vI ((a0.fH.fm.length:Nat):Int)),(9,vI ((j0:Nat):Int))]) (fun ⟨j0,q0⟩=>[.obj v1 (lpO u4 .ready none),.obj D0 (.deferred (some [])),.cells z0 [vI a0.fH.fh,vI a0.fH.fe,vI a0.fH.fj,v0_3,vI a0.fk] 206,.cells C1 [vI q0] 3,.cells y0 [vI a0.fH.fh,vI a0.fH.fe,vI a0.fH.fj,v0_3,vI a0.fk] 206]) (fun ⟨j0,q0⟩=>(j0,q0)) (0,0) V3 F0 ?_
 rintro B4 ⟨j0,q0⟩ v7 M1 E0 Z2 h
 unfold aj_l3 at h
 try dsimp only at h
 refine Ae<|Ab (Bj (i:=j0) (j:=a0.fH.fm.length) rfl rfl)<|Aa<|Ai<|AO rfl h (fun D1 h=>?_) (fun D1 h=>?_)
 refine Ap<|Ai<|Au<|Ae<|Ac rfl<|bk h fun x0 p4 h=>?_
 obtain ⟨y4,F4,F3,K3,I4,Y3,Q3⟩:=Bg (AM h0_3 E0) p4
 obtain ⟨z1,A1,B1,rfl,Z3,b4,c4⟩:=bm Y3
 refine Ab (Bi 6 j0 rfl F3 rfl rfl K3)<|Ab (AK rfl Q3)<|RG.nl [.string ⟨#[]⟩,vI 0,vN,vN,vN,.bool false] E0 fun A6 E4 Q1 C0=>Af rfl<|AX [.string x0.ft,vI x0.fx,z1,A1,B1,.bool x0.fv] Q1 .hd (o6 rfl rfl (AY (Aq Z3 C0)) (AY (Aq b4 C0)) (AY (Aq c4 C0)) rfl) fun B6 A0 b3=>Aa<|Ae<|AT 5 rfl<|AL rfl ((A0.memA .hd) 5 _ rfl)<|Ac rfl<|RG.ifb (s:=16) rfl h (fun E1 h=>?_) (fun E1 h=>?_)
 refine Al<|Al<|Al<|Al<|Al<|Bl rfl rfl<|Aa<|AZ rfl ?_
 have h:=jc h p1
 refine Ak rfl<|Ar (u:=.tuple #[]) k1 func191 rfl .nil rfl<|MX.endRange0 A0 .t1 (by intro h9; cases h9) fun C6 U1 Z4=>?_
 obtain ⟨u0,b5⟩:=AH U1 (.a0 .d1)
 refine Aw<|Ae<|Ac rfl ?_
 have q1:=AM h1_0 u0
 have j6:a1.length <= 281474976710656:=AS q1
 refine Ab (AW (xs:=a1) underlying53 rfl q1)<|AL rfl ((u0.memA .t3) 0 _ rfl)<|Ab (FV.neq (i:=((a1.length:Nat):Int)) (j:=q0) rfl rfl)<|xk h (fun M4 I0 h=>?_) (fun z7 I0 h=>?_)
 refine BQ (fst:=[]) (cap:=[]) .plain (bd 167) rfl (e2 rfl rfl) (fun p q=>ar_c n (u0.hL0 hL q)  I0) fun D6 v3=>?_
 obtain ⟨V1,d5⟩:=u0.agr v3
 refine PN.take V1 .t1 fun E6 W1 g5=>?_
 obtain ⟨X1,j5⟩:=AH W1 (.a0 .d1)
 cases h
 exact BD hp0 func132 ⟨X1.ag,rfl⟩
 refine Bk (.tuple #[]) (bd 167) rfl (e2 rfl rfl) (fun p q=>BC (ar_c n (u0.hL0 hL q)  I0)) rfl<|Aa<|Ae<|Ao .plain rfl (Does.makeMap (κ:=Int) (ν:=Bool) u0) fun F6 V0 Z0 k5=>Af rfl<|Aa<|Ai<|Ae<|Ac rfl<|Ab (AW (xs:=a1) underlying53 rfl (AM h1_0 Z0))<|Ac rfl<|Aa<|Au ?_
 obtain ⟨Y1,q5⟩:=AH Z0 (.a0 (.a1 .d3))
 refine tn h fun u6 W3 G0=>BT (α:=Nat × (List (Int × Bool))) (fun ⟨d0,k0⟩=>[(2,vP y0),(5,.map (some V0)),(20,v1_0),(21,vI ((a1.length:Nat):Int)),(22,vI ((d0:Nat):Int))]) (fun ⟨d0,k0⟩=>[.obj V0 (cr (k0:List (Int × Bool))),.obj D0 (.deferred (some [])),.cells y0 [vI a0.fH.fh,vI a0.fH.fe,vI a0.fH.fj,v0_3,vI a0.fk] 206]) (fun ⟨d0,k0⟩=>(d0,k0)) (0,([]:List (Int × Bool))) W3 Y1 ?_
 rintro C4 ⟨d0,k0⟩ x7 X0 b0 g1 h
 unfold aj_l1 at h
 try dsimp only at h
 refine Ae<|Ab (Bj (i:=d0) (j:=a1.length) rfl rfl)<|Aa<|Ai<|AO rfl h (fun F1 h=>?_) (fun F1 h=>?_)
 refine Ap<|Ai<|Au<|Ae<|bk h fun s0 q4 h=>?_
 obtain ⟨z4,G4,G3,M3,J1,d4,R3⟩:=Bg (AM h1_0 b0) q4
 have H3:J1 = [vI s0]:=d4; subst H3
 refine Ab (Bi 1 d0 rfl G3 rfl rfl M3)<|AL rfl (R3 0 _ rfl)<|Af rfl<|Aa<|Ae<|Ac rfl<|Ab (BO (i:=s0) (j:=0) rfl rfl)<|Ac rfl<|Bv (s:=28) rfl h (fun G1 h=>?_) (fun G1 h=>?_)
 refine Al<|Al<|Al<|Al<|Bl rfl rfl<|xk h (fun P4 J0 h=>?_) (fun A7 J0 h=>?_)
 have h:=ap h G0
 refine BQ (fst:=[]) (cap:=[]) .plain (bd 167) rfl (e2 rfl rfl) (fun p q=>ar_c n (b0.hL0 hL q)  J0) fun H6 x3=>?_
 obtain ⟨Z1,s5⟩:=b0.agr x3
 refine PN.take Z1 .t1 fun I6 b2 t5=>?_
 obtain ⟨c2,u5⟩:=AH b2 (.a0 .d1)
 cases h
 exact BD hp0 func132 ⟨c2.ag,rfl⟩
 refine Bk (.tuple #[]) (bd 167) rfl (e2 rfl rfl) (fun p q=>BC (ar_c n (b0.hL0 hL q)  J0)) rfl<|Aa<|Am<|Ac rfl<|Ac rfl<|RG.now .plain (Acts.mapUpdate (kv:=s0) (vv:=true) b0 .hd underlying242 underlying3 rfl rfl rfl rfl) fun J6 g2 c3=>Aa<|Aw<|Am<|Ab (Bf (i:=d0) (j:=1) rfl rfl (by omega))<|Ac rfl<|Aa<|X0 (d0 + 1,bh k0 s0 true) g2 (Tt g1 c3) h
 refine Az (Ah rfl)<|RG.fg 4 rfl<|Az (AN rfl ((b0.memA .t2) 4 _ rfl))<|Az (FV.geq (i:=s0) (j:=a0.fk) rfl rfl)<|Bn rfl rfl<|xk h (fun Q4 K0 h=>?_) (fun B7 K0 h=>?_)
 have h:=ap h G0
 refine BQ (fst:=[]) (cap:=[]) .plain (bd 167) rfl (e2 rfl rfl) (fun p q=>ar_c n (b0.hL0 hL q)  K0) fun K6 y3=>?_
 obtain ⟨j2,v5⟩:=b0.agr y3
 refine PN.take j2 .t1 fun M6 k2 y5=>?_
 obtain ⟨p2,z5⟩:=AH k2 (.a0 .d1)
 cases h
 exact BD hp0 func132 ⟨p2.ag,rfl⟩
 refine Bk (.tuple #[]) (bd 167) rfl (e2 rfl rfl) (fun p q=>BC (ar_c n (b0.hL0 hL q)  K0)) rfl<|Aa<|Am<|Ac rfl<|Ac rfl<|RG.now .plain (Acts.mapUpdate (kv:=s0) (vv:=true) b0 .hd underlying242 underlying3 rfl rfl rfl rfl) fun P6 q2 g3=>Aa<|Aw<|Am<|Ab (Bf (i:=d0) (j:=1) rfl rfl (by omega))<|Ac rfl<|Aa<|X0 (d0 + 1,bh k0 s0 true) q2 (Tt g1 g3) h
 refine AV rfl ?_
 have h:=aA h G0
 try dsimp only at h
 refine Am<|Ac rfl<|Ab (FV.len_map (D:=k0) b0 .hd underlying242 rfl)<|AT 4 rfl<|AL rfl ((b0.memA .t2) 4 _ rfl)<|Ab (FV.neq (i:=((k0.length:Nat):Int)) (j:=a0.fk) rfl rfl)<|xk h (fun R4 M0 h=>?_) (fun C7 M0 h=>?_)
 refine BQ (fst:=[]) (cap:=[]) .plain (bd 167) rfl (e2 rfl rfl) (fun p q=>ar_c n (b0.hL0 hL q)  M0) fun Q6 z3=>?_
 obtain ⟨s2,A5⟩:=b0.agr z3
 refine PN.take s2 .t1 fun R6 u2 B5=>?_
 obtain ⟨v2,C5⟩:=AH u2 (.a0 .d1)
 cases h
 exact BD hp0 func132 ⟨v2.ag,rfl⟩
 refine Bk (.tuple #[]) (bd 167) rfl (e2 rfl rfl) (fun p q=>BC (ar_c n (b0.hL0 hL q)  M0)) rfl<|Aa<|MX.fin rfl<|RT.take b0 .t1 fun U6 x2 D5=>?_
 obtain ⟨y2,E5⟩:=AH x2 (.a0 .d1)
 refine Ar hb0 func132 rfl .nil rfl ?_
 cases h
 exact ⟨y2.ag,fun p q=>aX rfl⟩
 refine Az (Ah rfl)<|Az (Ah rfl)<|Az (AK rfl (A0.memA .hd))<|RG.yieldP (fd:=132) (vs:=[vI ((j0:Nat):Int),.agg #[.string x0.ft,vI x0.fx,z1,A1,B1,.bool x0.fv]]) (.yes rfl rfl) rfl (e2 rfl rfl) A0 .t1 v4 rfl rfl rfl fun J4 E3 q6=>Ap<|MX.begin A0 .t1 fun V6 b1 j3=>Au<|Am<|AL rfl ((b1.memA .t4) 0 _ rfl)<|bk h fun y1 j4 h=>Ab (BE (i:=q0) (j:=1) rfl rfl j4)<|AX [vI y1] b1 .t4 (o1 rfl) fun W6 z2 k3=>Aa<|Aw<|MX.roundEnd E3 z2 .t1 fun X6 A2 p3=>Az (Bp rfl)<|Bn rfl rfl<|Aa<|BA rfl<|Ap<|Aw<|Am<|Ab (Bf (i:=j0) (j:=1) rfl rfl (by omega))<|Ac rfl<|Aa ?_
 obtain ⟨B2,q3⟩:=AH A2 .d1
 exact M1 (j0 + 1,y1) B2 (Tt Z2 (Tt C0 (Tt b3 (Tt j3 (Tt k3 (Tt p3 q3)))))) h
 refine AV rfl ?_
 have h:=aA h p1
 try dsimp only at h
 refine MX.fin rfl<|Ar (u:=.tuple #[]) k1 func191 rfl .nil rfl<|MX.endRange0 E0 .hd (by intro h9; cases h9) fun Y6 C2 G5=>?_
 obtain ⟨v0,H5⟩:=AH C2 .d1
 refine Aw<|Ae<|Ac rfl ?_
 have s1:=AM h1_0 v0
 have k6:a1.length <= 281474976710656:=AS s1
 refine Ab (AW (xs:=a1) underlying53 rfl s1)<|AL rfl ((v0.memA .t2) 0 _ rfl)<|Ab (FV.neq (i:=((a1.length:Nat):Int)) (j:=q0) rfl rfl)<|xk h (fun U4 P0 h=>?_) (fun D7 P0 h=>?_)
 refine BQ (fst:=[]) (cap:=[]) .plain (bd 167) rfl (e2 rfl rfl) (fun p q=>ar_c n (v0.hL0 hL q)  P0) fun Z6 A3=>?_
 obtain ⟨D2,I5⟩:=v0.agr A3
 refine PN.take D2 .hd fun b7 E2 J5=>?_
 obtain ⟨F2,K5⟩:=AH E2 .d1
 cases h
 exact BD hp0 func132 ⟨F2.ag,rfl⟩
 refine Bk (.tuple #[]) (bd 167) rfl (e2 rfl rfl) (fun p q=>BC (ar_c n (v0.hL0 hL q)  P0)) rfl<|Aa<|Ae<|Ao .plain rfl (Does.makeMap (κ:=Int) (ν:=Bool) v0) fun c7 W0 c1 M5=>Af rfl<|Aa<|Ai<|Ae<|Ac rfl<|Ab (AW (xs:=a1) underlying53 rfl (AM h1_0 c1))<|Ac rfl<|Aa<|Au ?_
 obtain ⟨G2,P5⟩:=AH c1 (.a0 (.a0 .d2))
 refine tn h fun v6 X3 H0=>BT (α:=Nat × (List (Int × Bool))) (fun ⟨g0,p0⟩=>[(2,vP y0),(5,.map (some W0)),(20,v1_0),(21,vI ((a1.length:Nat):Int)),(22,vI ((g0:Nat):Int))]) (fun ⟨g0,p0⟩=>[.obj W0 (cr (p0:List (Int × Bool))),.obj D0 (.deferred (some [])),.cells y0 [vI a0.fH.fh,vI a0.fH.fe,vI a0.fH.fj,v0_3,vI a0.fk] 206]) (fun ⟨g0,p0⟩=>(g0,p0)) (0,([]:List (Int × Bool))) X3 G2 ?_
 rintro D4 ⟨g0,p0⟩ y7 Y0 c0 j1 h
 unfold aj_l2 at h
 try dsimp only at h
 refine Ae<|Ab (Bj (i:=g0) (j:=a1.length) rfl rfl)<|Aa<|Ai<|AO rfl h (fun H1 h=>?_) (fun H1 h=>?_)
 refine Ap<|Ai<|Au<|Ae<|bk h fun t0 s4 h=>?_
 obtain ⟨A4,H4,I3,P3,K1,g4,U3⟩:=Bg (AM h1_0 c0) s4
 have J3:K1 = [vI t0]:=g4; subst J3
 refine Ab (Bi 1 g0 rfl I3 rfl rfl P3)<|AL rfl (U3 0 _ rfl)<|Af rfl<|Aa<|Ae<|Ac rfl<|Ab (BO (i:=t0) (j:=0) rfl rfl)<|Ac rfl<|Bv (s:=28) rfl h (fun I1 h=>?_) (fun I1 h=>?_)
 refine Al<|Al<|Al<|Al<|Bl rfl rfl<|xk h (fun V4 Q0 h=>?_) (fun E7 Q0 h=>?_)
 have h:=ap h H0
 refine BQ (fst:=[]) (cap:=[]) .plain (bd 167) rfl (e2 rfl rfl) (fun p q=>ar_c n (c0.hL0 hL q)  Q0) fun d7 B3=>?_
 obtain ⟨H2,Q5⟩:=c0.agr B3
 refine PN.take H2 .t1 fun g7 I2 R5=>?_
 obtain ⟨J2,U5⟩:=AH I2 (.a0 .d1)
 cases h
 exact BD hp0 func132 ⟨J2.ag,rfl⟩
 refine Bk (.tuple #[]) (bd 167) rfl (e2 rfl rfl) (fun p q=>BC (ar_c n (c0.hL0 hL q)  Q0)) rfl<|Aa<|Am<|Ac rfl<|Ac rfl<|RG.now .plain (Acts.mapUpdate (kv:=t0) (vv:=true) c0 .hd underlying242 underlying3 rfl rfl rfl rfl) fun j7 K2 s3=>Aa<|Aw<|Am<|Ab (Bf (i:=g0) (j:=1) rfl rfl (by omega))<|Ac rfl<|Aa<|Y0 (g0 + 1,bh p0 t0 true) K2 (Tt j1 s3) h
 refine Az (Ah rfl)<|RG.fg 4 rfl<|Az (AN rfl ((c0.memA .t2) 4 _ rfl))<|Az (FV.geq (i:=t0) (j:=a0.fk) rfl rfl)<|Bn rfl rfl<|xk h (fun W4 R0 h=>?_) (fun F7 R0 h=>?_)
 have h:=ap h H0
 refine BQ (fst:=[]) (cap:=[]) .plain (bd 167) rfl (e2 rfl rfl) (fun p q=>ar_c n (c0.hL0 hL q)  R0) fun k7 C3=>?_
 obtain ⟨M2,V5⟩:=c0.agr C3
 refine PN.take M2 .t1 fun p7 P2 W5=>?_
 obtain ⟨Q2,X5⟩:=AH P2 (.a0 .d1)
 cases h
 exact BD hp0 func132 ⟨Q2.ag,rfl⟩
 refine Bk (.tuple #[]) (bd 167) rfl (e2 rfl rfl) (fun p q=>BC (ar_c n (c0.hL0 hL q)  R0)) rfl<|Aa<|Am<|Ac rfl<|Ac rfl<|RG.now .plain (Acts.mapUpdate (kv:=t0) (vv:=true) c0 .hd underlying242 underlying3 rfl rfl rfl rfl) fun q7 R2 u3=>Aa<|Aw<|Am<|Ab (Bf (i:=g0) (j:=1) rfl rfl (by omega))<|Ac rfl<|Aa<|Y0 (g0 + 1,bh p0 t0 true) R2 (Tt j1 u3) h
 refine AV rfl ?_
 have h:=aA h H0
 try dsimp only at h
 refine Am<|Ac rfl<|Ab (FV.len_map (D:=p0) c0 .hd underlying242 rfl)<|AT 4 rfl<|AL rfl ((c0.memA .t2) 4 _ rfl)<|Ab (FV.neq (i:=((p0.length:Nat):Int)) (j:=a0.fk) rfl rfl)<|xk h (fun X4 U0 h=>?_) (fun G7 U0 h=>?_)
 refine BQ (fst:=[]) (cap:=[]) .plain (bd 167) rfl (e2 rfl rfl) (fun p q=>ar_c n (c0.hL0 hL q)  U0) fun s7 D3=>?_
 obtain ⟨U2,Y5⟩:=c0.agr D3
 refine PN.take U2 .t1 fun t7 V2 Z5=>?_
 obtain ⟨W2,b6⟩:=AH V2 (.a0 .d1)
 cases h
 exact BD hp0 func132 ⟨W2.ag,rfl⟩
 refine Bk (.tuple #[]) (bd 167) rfl (e2 rfl rfl) (fun p q=>BC (ar_c n (c0.hL0 hL q)  U0)) rfl<|Aa<|MX.fin rfl<|RT.take c0 .t1 fun u7 X2 c6=>?_
 obtain ⟨Y2,d6⟩:=AH X2 (.a0 .d1)
 refine Ar hb0 func132 rfl .nil rfl ?_
 cases h
 exact ⟨Y2.ag,fun p q=>aX rfl⟩
def cZ_p (n:Nat) (a0:Te) (a1:Int) (a2:List Int):Option (Except Th Bool):=
  (cY_p n a0 a1).bind fun y3=>exc y3 (fun d0=>(aj_p n d0 a2).bind fun g0=>exc g0 (fun _y26=>some (.ok true)) (fun c0=>some (.error c0))) (fun b0=>some (.error b0))
theorem cZ_c (n:Nat) {L w} (hL:hl L w) (a0:Te) {v0_3:Value} (h0_3:Rep.R w L [v0_3] a0.fm) {p0:Nat} (m0:∀ j9 v9,([vI a0.fh,vI a0.fe,vI a0.fj,v0_3]:List Value)[j9]? = some v9 -> w.cell? ((⟨p0,0,none⟩:Addr).add j9) = some v9) {a1:Int} {p1:Nat} (m1:∀ j9 v9,([vI a1]:List Value)[j9]? = some v9 -> w.cell? ((⟨p1,0,none⟩:Addr).add j9) = some v9) {a2:List Int} {v2_0:Value} (h2_0:Rep.R w L [v2_0] a2) {p2:Nat} (m2:∀ j9 v9,([v2_0]:List Value)[j9]? = some v9 -> w.cell? ((⟨p2,0,none⟩:Addr).add j9) = some v9)  {r:Except Th Bool} (h:cZ_p n a0 a1 a2 = some r) :
 Cl 130 #[.pointer (some ⟨p0,0,none⟩),.pointer (some ⟨p1,0,none⟩),.pointer (some ⟨p2,0,none⟩)] w (bj w (fun (y:Bool) _ u=>u = .bool y) (fun e=>.iface 237 (.agg #[vI e.fF])) r):=by
 unfold cZ_p at h
 have hS0:=AC w
 refine MX.startP func130 rfl rfl rfl fun _ cs0 hb0 hp0=>Ae<|Af rfl<|Aa<|Ai<|du 5 fun kt1 kp2=>Rx 0 20 kt1 rfl kp2 (AK rfl (fun j9 v9 h9=>hS0.ag.cell0 (m0 j9 v9 h9)))<|Rx 1 20 kt1 rfl kp2 (AN rfl ((fun j9 v9 h9=>hS0.ag.cell0 (m1 j9 v9 h9)) 0 _ rfl))<|xk h (fun v0 hy3 h=>?_) (fun g0 hy3 h=>?_)
 refine Rx 3 16 kt1 rfl kp2 (AN rfl ((fun j9 v9 h9=>hS0.ag.cell0 (m2 j9 v9 h9)) 0 _ rfl))<|BS (i:=2) (rk kt1) (RO.callE (fst:=[]) (cap:=[]) rfl .plain (bd 131) rfl (e2 rfl rfl) (fun p q=>cY_c n (hS0.hL hL q) a0 (Av h0_3 q) hy3) (fun D0 s0=>?_))
 obtain ⟨j0,y0⟩:=hS0.agr s0
 cases h
 exact BD hp0 func130 ⟨j0.ag,rfl⟩
 refine Rx 3 16 kt1 rfl kp2 (AN rfl ((fun j9 v9 h9=>hS0.ag.cell0 (m2 j9 v9 h9)) 0 _ rfl))<|Bu 2 15 kt1 rfl .plain (bd 131) rfl (e2 rfl rfl) (fun p q=>BC (cY_c n (hS0.hL hL q) a0 (Av h0_3 q) hy3)) rfl fun E0 C0 t0 ⟨B0,hu_,d0⟩=>?_
 subst hu_
 obtain ⟨b0,z0⟩:=hS0.agr t0
 refine xk h (fun x0 c0 h=>?_) (fun G0 c0 h=>?_)
 refine BS (i:=4) (rk kt1) (RO.callE (fst:=[]) (cap:=[]) rfl .plain (bd 132) rfl (e2 rfl rfl) (fun p q=>aj_c n (b0.hL0 hL q) g0 (b0.kd d0 q) (b0.k0 h2_0 q) c0) (fun F0 u0=>?_))
 obtain ⟨q0,A0⟩:=b0.agr u0
 cases h
 exact BD hp0 func130 ⟨q0.ag,rfl⟩
 refine RD.cq 4 31 0 (.tuple #[]) kt1 rfl kp2 (bd 132) rfl (e2 rfl rfl) (fun p q=>BC (aj_c n (b0.hL0 hL q) g0 (b0.kd d0 q) (b0.k0 h2_0 q) c0)) rfl<|AR (dk kt1)<|Ae<|Af rfl<|Aa<|Ak rfl<|AQ hb0 func130 rfl rfl ?_
 cases h
 exact ⟨b0.ag,fun p q=>aX rfl⟩
def cb_p (n:Nat) (a0:Te) (a1:List Int) (a2:Int):Option Int:=
  (cZ_p n a0 a2 a1).bind fun c0=>exc c0 (fun _y41=>some (0:Int)) (fun b0=>some b0.fF)
theorem cb_c (n:Nat) {L w} (hL:hl L w) (a0:Te) {v0_3:Value} (h0_3:Rep.R w L [v0_3] a0.fm) {a1:List Int} {v1_0:Value} (h1_0:Rep.R w L [v1_0] a1) {a2:Int}  {r:Int} (h:cb_p n a0 a1 a2 = some r) :
 Cl 95 #[.agg #[vI a0.fh,vI a0.fe,vI a0.fj,v0_3],v1_0,vI a2] w (ae w fun _ u=>u = vI r):=by
 unfold cb_p at h
 refine AF func95 rfl rfl rfl fun _ cs0 hb0=>Ae<|RG.bx (AC w) rfl rfl fun G1 g0 D0 x1=>RG.bx D0 rfl (Rep.c1 (AM h1_0 D0)) fun K1 j0 K0 y1=>RG.bx K0 rfl rfl fun M1 p0 M0 z1=>Af rfl<|Aa<|Ae<|Ab (FV.makeFunc (vs:=[]) (us:=[vP g0,vP p0,vP j0]) am (e3 rfl rfl rfl))<|BH (fst:=[]) (cap:=[]) (vs:=[.func (.func 130) #[] #[vP g0,vP p0,vP j0]]) .plain (bd 129) func129 rfl rfl rfl rfl (e1 rfl) rfl fun p1 E0 F1=>Ae<|RG.nl [.bool false] M0 fun P1 q0 P0 A1=>RG.nl [vI 0] P0 fun Q1 d0 b0 B1=>Aa<|Ae<|Ab (FV.makeFunc (vs:=[]) (us:=[vP q0,vP d0]) am (e2 rfl rfl))<|RG.defer (fst:=[]) (cap:=[vP q0,vP d0]) (vs:=[]) rfl .plain rfl am<|Aa<|Ae<|Ac rfl<|xk h (fun s0 z0 h=>?_) (fun B0 z0 h=>?_)
 refine BQ (fst:=[]) (cap:=[vP g0,vP p0,vP j0]) .plain (bd 130) rfl am (fun p q=>cZ_c n (b0.hL0 hL q) a0 (b0.k0 h0_3 q) (aD q (b0.memA .t4)) (aD q (b0.memA .t2)) (b0.k0 h1_0 q) (aD q (b0.memA .t3)) z0) fun R1 W0=>?_
 obtain ⟨Q0,C1⟩:=b0.agr W0
 refine PN.callD (vs:=[]) (cap:=[vP q0,vP d0]) (bd 164) func164 rfl rfl rfl fun k1 X0 Z0=>Ae<|RG.recover1 .plain X0 rfl<|Af rfl<|Aa<|Ae<|Ac rfl<|Ab (FV.neqI underlying20 rfl rfl)<|Aa<|AZ rfl<|Ae<|Ac rfl<|Ab (FV.assertT rfl rfl)<|Ac rfl<|Ab (Aj rfl rfl)<|Ab (Aj rfl rfl)<|RG.nl [vI 0] Q0 fun U1 g1 R0 D1=>AX [vI s0.fF] R0 .hd (o1 rfl) fun V1 t0 E1=>Af rfl<|Aa<|Ai<|Ae<|Ac rfl<|Ab (Bp rfl)<|Aa<|BA rfl<|Ap<|Ae<|Af rfl<|Aa<|du 3 fun c0 A0=>Rv 0 c0 rfl A0 (fun _=>Ah rfl)<|Rv 1 c0 rfl A0 (fun _=>Be 0 rfl)<|RD.mo (α:=Unit) (fun ()=>[(1,vP d0),(19,vI s0.fF)]) (fun ()=>[.cells d0 [vI 0] 35,.cells q0 [.bool false] 4,.cells p0 [vI a2] 3,.cells j0 [v1_0] 53,.cells g0 [vI a0.fh,vI a0.fe,vI a0.fj,v0_3] 58]) t0 1 15 ?_ ?_
 rintro ⟨⟩ W1 G0 q1
 try dsimp only
 refine BB 4 31 c0 rfl rfl .plain (AD (news:=[vI s0.fF]) G0 .hd rfl rfl rfl rfl rfl rfl (o1 rfl)) fun H1 v0 s1=>AR (dk c0)<|MX.fin rfl<|RT.leaveD1 Z0 func164 rfl .nil<|Ar (u:=.tuple #[.bool false,vI s0.fF]) E0 func129 rfl (.cons (.one rfl rfl ((v0.memA .t1) 0 _ rfl)) (.cons (.one rfl rfl ((v0.memA .hd) 0 _ rfl)) .nil)) rfl<|Ac rfl<|Ab (Aj rfl rfl)<|Ab (Aj rfl rfl)<|Af rfl<|Af rfl<|Aa<|Ae<|Ac rfl<|Af rfl<|Aa<|Ak rfl<|AQ hb0 func95 rfl rfl ?_
 cases h
 exact v0.gv
 intro C0
 refine By [2,3] (rk c0) ⟨?_,?_,trivial⟩
 refine RO.val (m' :=7) (sk c0) rfl .plain rfl (AN rfl ((t0.memA .hd) 0 _ rfl))<|BB 3 15 c0 rfl rfl .plain (AD (news:=[.bool false]) t0 .t2 rfl rfl rfl rfl rfl rfl (o1 rfl)) fun b1 u0 y0=>?_
 obtain ⟨H0,U0⟩:=AH u0 .d1
 exact C0 () H0 (Tt y0 U0)
 refine RO.now (m' :=11) (sk c0) rfl rfl .plain (AD (news:=[.bool false]) t0 .t2 rfl rfl rfl rfl rfl rfl (o1 rfl)) fun b1 u0 y0=>Rx 2 16 c0 rfl A0 (AN rfl ((u0.memA .hd) 0 _ rfl)) ?_
 obtain ⟨I0,V0⟩:=AH u0 .d1
 exact C0 () I0 (Tt y0 V0)
 refine RG.callq' (v:=.bool B0) (fst:=[]) (cap:=[vP g0,vP p0,vP j0]) .plain (bd 130) rfl am (fun p q=>BC (cZ_c n (b0.hL0 hL q) a0 (b0.k0 h0_3 q) (aD q (b0.memA .t4)) (aD q (b0.memA .t2)) (b0.k0 h1_0 q) (aD q (b0.memA .t3)) z0)) rfl<|AX [.bool B0] b0 .t1 (o1 rfl) fun I1 J0 u1=>AX [vI 0] J0 .hd (o1 rfl) fun J1 x0 v1=>Aa<|Ak rfl<|RT.callD (vs:=[]) (cap:=[vP q0,vP d0]) (bd 164) func164 rfl rfl rfl fun j1 F0 Y0=>Ae<|RG.recover0 .plain F0 rfl<|Af rfl<|Aa<|Ae<|Ac rfl<|Ab (FV.neqI0 underlying20 rfl rfl)<|Aa<|BA rfl<|Ap<|MX.fin rfl<|RT.leaveD0 F0 Y0 func164 rfl .nil<|Ar (u:=.tuple #[.bool B0,vI 0]) E0 func129 rfl (.cons (.one rfl rfl ((x0.memA .t1) 0 _ rfl)) (.cons (.one rfl rfl ((x0.memA .hd) 0 _ rfl)) .nil)) rfl<|Ac rfl<|Ab (Aj rfl rfl)<|Ab (Aj rfl rfl)<|Af rfl<|Af rfl<|Aa<|Ae<|Ac rfl<|Af rfl<|Aa<|Ak rfl<|AQ hb0 func95 rfl rfl ?_
 cases h
 exact x0.gv
def ao_p (_n:Nat) (a0:Tb) (a1:Int):Option (Except Th Tb):=
  (if a1 = 0 then some (.ok a0) else some (.error (⟨a1⟩:Th)))
theorem ao_c (n:Nat) {L w} (_hL:hl L w) (a0:Tb) {a1:Int}  {r:Except Th Tb} (h:ao_p n a0 a1 = some r) :
 Cl 65 #[.agg ((ac a0)).toArray,vI a1] w (bj w (fun (y:Tb) _ u=>u = .agg ((ac y)).toArray) (fun e=>.iface 176 (.agg #[vI e.fF])) r):=by
 unfold ao_p at h
 refine MX.startP func65 rfl rfl rfl fun _ cs0 hb0 hp0=>Ae<|RG.bx (AC w) rfl rfl fun t0 j0 g0 p0=>RG.nl zL g0 fun u0 k0 b0 q0=>Aa<|Ai<|Ae<|Ac rfl<|Ab (FV.neq (i:=a1) (j:=0) rfl rfl)<|Aa<|MX.ifn rfl h (fun d0 h=>?_) (fun d0 h=>?_)
 refine Ap<|Ae<|Ab (AK rfl (b0.memA .t1))<|AX (ac a0) b0 .hd (aq rfl) fun v0 c0 s0=>Aa<|Ak rfl<|Ar hb0 func65 rfl (.cons (.many (cs:=(ac a0)) rfl rfl (c0.memA .hd)) .nil) rfl ?_
 cases h
 exact ⟨c0.ag,fun p q=>aX rfl⟩
 refine Am<|Ac rfl<|Ab (AU (vs:=[vI a1]) (u:=.agg #[vI a1]) (e1 rfl) (fun p=>by kernel_rfl))<|Ab (FV.makeInterface rfl rfl)<|RG.panic .plain rfl ?_
 cases h
 exact BD hp0 func65 ⟨b0.ag,rfl⟩
def bO_p (n:Nat) (a0:Int) (a1:Int):Option (Except Th Tb):=
  (dp_p n a0 a1).bind fun b0=>(ao_p n b0.1 b0.2).bind fun d0=>exc d0 (fun g0=>some (.ok g0)) (fun c0=>some (.error c0))
theorem bO_c (n:Nat) {L w} (hL:hl L w) {a0:Int} {a1:Int}  {r:Except Th Tb} (h:bO_p n a0 a1 = some r) :
 Cl 64 #[vI a0,vI a1] w (bj w (fun (y:Tb) _ u=>u = .agg ((ac y)).toArray) (fun e=>.iface 176 (.agg #[vI e.fF])) r):=by
 unfold bO_p at h
 refine MX.startP func64 rfl rfl rfl fun _ cs0 hb0 hp0=>Ae<|RG.nl zL (AC w) fun y0 s0 b0 u0=>Aa<|Ae<|Ac rfl<|Ac rfl<|bk h fun c0 q0 h=>Bk (.tuple #[.agg ((ac c0.1)).toArray,vI c0.2]) (bd 45) rfl (e2 rfl rfl) (fun p q=>dp_c n (b0.hL0 hL q)  q0) rfl<|Ab (Aj rfl rfl)<|Ab (Aj rfl rfl)<|xk h (fun t0 d0 h=>?_) (fun g0 d0 h=>?_)
 refine BQ (fst:=[]) (cap:=[]) .plain (bd 65) rfl (e2 rfl rfl) (fun p q=>ao_c n (b0.hL0 hL q) c0.1 d0) fun z0 p0=>?_
 obtain ⟨k0,v0⟩:=b0.agr p0
 cases h
 exact BD hp0 func64 ⟨k0.ag,rfl⟩
 refine Bk (.agg ((ac g0)).toArray) (bd 65) rfl (e2 rfl rfl) (fun p q=>BC (ao_c n (b0.hL0 hL q) c0.1 d0)) rfl<|AX (ac g0) b0 .hd (aq rfl) fun A0 j0 x0=>Aa<|Ak rfl<|Ar hb0 func64 rfl (.cons (.many (cs:=(ac g0)) rfl rfl (j0.memA .hd)) .nil) rfl ?_
 cases h
 exact ⟨j0.ag,fun p q=>aX rfl⟩
def br_p (_n:Nat) (a0:UInt64):Option Int:=
  (if a0 = (0:UInt64) then some (64:Int) else (tab0[(shrU ((a0 &&& (-a0)) * (285870213051353865:UInt64)) 58).toNat]?).bind fun z2=>some ((z2.toNat:Nat):Int))
theorem br_c (n:Nat) {L w} (_hL:hl L w) (a0:UInt64) (hG0:Glob 0 tab0 w)  {r:Int} (h:br_p n a0 = some r) :
 Cl 134 #[vU a0] w (ae w fun _ u=>u = vI r):=by
 unfold br_p at h
 have hS0:=AC w
 refine AF func134 rfl rfl rfl fun _ cs0 hb0=>Ae<|Af rfl<|Aa<|Ai<|Ae<|Ac rfl<|Ab (FV.eqlU (a:=a0) (b:=(0:UInt64)) rfl rfl)<|Aa<|AO rfl h (fun c1 h=>?_) (fun c1 h=>?_)
 refine Ae<|Af rfl<|Aa<|Ak rfl<|AQ hb0 func134 rfl rfl ?_
 cases h
 exact hS0.gv
 refine Ap<|Ae<|Ac rfl<|Ac rfl<|Ab (FV.negU (a:=a0) rfl)<|Ab (FV.andU (a:=a0) (b:=-a0) rfl rfl)<|Ab (FV.mulU (a:=a0 &&& (-a0)) (b:=(285870213051353865:UInt64)) rfl rfl)<|Ab (FV.shrU (a:=(a0 &&& (-a0)) * (285870213051353865:UInt64)) (j:=58) rfl rfl)<|bk h fun z2 hz2 h=>Ab (Bd (m:=1) (k:=(shrU ((a0 &&& (-a0)) * (285870213051353865:UInt64)) 58).toNat) (len:=64) rfl rfl rfl rfl (tab_lt hz2 rfl))<|AL rfl (hG0.keep hS0.ag _ _ hz2) ?_
 have hu3:=z2.toNat_lt
 refine Ab (FV.convN (i:=z2.toNat) underlying5 underlying3 rfl (by omega))<|Af rfl<|Aa<|Ak rfl<|AQ hb0 func134 rfl rfl ?_
 cases h
 exact hS0.gv
theorem dG_c (_n:Nat) {L w} (_hL:hl L w) (a0:UInt64)  :
 Cl 97 #[vU a0] w (ae w fun w' u=>∃ b0:Nat,u = .func (.func 133) #[] #[vP b0]/\St w w' [.cells b0 [vU a0] 28]):=by
 refine AF func97 rfl rfl rfl fun _ cs0 hb0=>Ae<|RG.bx (AC w) rfl rfl fun g0 b0 c0 d0=>Af rfl<|Aa<|Ae<|Ab (FV.makeFunc (vs:=[]) (us:=[vP b0]) am (e1 rfl))<|Af rfl<|Aa<|Ak rfl<|Ar (u:=.func (.func 133) #[] #[vP b0]) hb0 func97 rfl (.cons (.tmp rfl) .nil) rfl<|⟨c0.ag,fun p q=>⟨b0,rfl,c0.agree q⟩⟩
structure Tm where
  fH:Te
  fplan:List Int
  fk:Int
  deriving DecidableEq
instance:Rep Tm:=Rep.via (β:=Te × (List Int) × Int) fun x=>(x.fH,x.fplan,x.fk)
def am_l1 (_n:Nat) (j0:List UInt64) (d0:Nat × (List UInt64) -> Option (List UInt64)):Nat × (List UInt64) -> Option (List UInt64)
  | (b0,c0)=>(if b0 < j0.length then (j0[b0]?).bind fun g0=>(if g0 = (0:UInt64) then d0 (b0 + 1,c0) else (app c0 ([g0]:List UInt64)).bind fun k0=>d0 (b0 + 1,k0)) else some c0)
def am_l2 (n:Nat) (a0:Tm) (j0:UInt64 × (List UInt64) -> Option (List UInt64)):UInt64 × (List UInt64) -> Option (List UInt64)
  | (b0,c0)=>(if b0 = (0:UInt64) then some c0 else (br_p n b0).bind fun g0=>(idx a0.fplan g0).bind fun d0=>(idx c0 d0).bind fun p0=>(aT g0).bind fun k0=>(put c0 ((d0.toNat:Nat):Int) (p0 ||| (shlU (1:UInt64) k0))).bind fun q0=>j0 (b0 &&& (b0 - (1:UInt64)),q0))
def am_p (n:Nat) (a0:Tm) (a1:Ta):Option (List UInt64):=
  (mk a0.fk (0:UInt64)).bind fun c0=>Option.bind (ah (am_l2 n a0) n (a1.fm,c0)) (fun b0=>Option.bind (ah (am_l1 n b0) n (0,([]:List UInt64))) (fun d0=>some d0))
theorem am_c (n:Nat) {L w} (hL:hl L w) (a0:Tm) {v0_3:Value} (_h0_3:Rep.R w L [v0_3] a0.fH.fm) {v0_4:Value} (h0_4:Rep.R w L [v0_4] a0.fplan) (a1:Ta) (hG0:Glob 0 tab0 w)  {r:List UInt64} (h:am_p n a0 a1 = some r) :
 Cl 68 #[.agg #[vI a0.fH.fh,vI a0.fH.fe,vI a0.fH.fj,v0_3,v0_4,vI a0.fk],.agg #[.string a1.ft,vI a1.fE,vU a1.fm]] w (ae w fun w' u=>∃ v0_0:Value,u = v0_0/\Rep.R w' L [v0_0] r):=by
 unfold am_p at h
 refine AF func68 rfl rfl rfl fun _ cs0 hb0=>Ae<|RG.bx (AC w) rfl rfl fun y4 V0 b2 c4=>RG.bx b2 rfl rfl fun z4 W0 Z0 d4=>Af rfl<|Aa<|Ae<|AT 5 rfl<|AL rfl ((Z0.memA .t1) 5 _ rfl)<|bk h fun H1 B1 h=>Ao .plain rfl (Does.mk (α:=UInt64) B1 Z0 cT rfl) fun B4 t0 g1 g4=>?_
 have H2:=AB (cs:=(List.replicate a0.fk.toNat [vW 0]).flatten) (xs:=H1) g1 L (Cells.mk B1 rfl)
 refine RG.nl [vN] g1 fun C4 X0 G0 y2=>RG.now .plain (AD (news:=[(.slice (some ⟨t0,0,none⟩) a0.fk.toNat a0.fk.toNat)]) G0 .hd rfl rfl rfl (St.c1 (α:=UInt64) G0 .t1) rfl rfl (o1 (St.o1 (α:=UInt64) G0 .t1))) fun w32 C0 C2=>Aa<|Ai<|Ae<|AT 2 rfl<|AL rfl ((C0.memA .t2) 2 _ rfl)<|jE (bd 97) rfl (e1 rfl) (fun p q=>Calls.gives (dG_c n (C0.hL hL q) a1.fm) fun (w8:World) (u8:Value) ⟨b0_,hu_,s_⟩=>(⟨b0_,hu_,s_.from q⟩:∃ v0:Nat,u8 = Value.func (.func 133) #[] #[vP v0]/\St w32 w8 [.cells v0 [vU a1.fm] 28])) rfl fun H4 x4 k4 ⟨v0,u3,D1⟩=>?_
 subst u3
 refine Aa<|Au<|MX.rangeP (lb:=[vP v0]) rfl (ee C0 D1) rfl (bd 133) func133 rfl rfl rfl fun M4 U0 B0 C1 b4 s2 E2 F3 G2 s4=>Au ?_
 obtain ⟨u4,g3,V2⟩:=ao h
 refine MX.lf (α:=UInt64 × (List UInt64) × (List Value)) (fun ⟨b0,d0,q0⟩=>[(0,.func (.yield U0) #[] #[]),(1,vP v0)]) (fun ⟨b0,d0,q0⟩=>[.obj U0 (lpO C1 .ready none),.obj B0 (.deferred (some [])),.cells v0 [vU b0] 28,.cells X0 [(.slice (some ⟨t0,0,none⟩) a0.fk.toNat a0.fk.toNat)] 75,rr w 28 UInt64 (.slice (some ⟨t0,0,none⟩) a0.fk.toNat a0.fk.toNat) d0.length q0,.cells W0 [.string a1.ft,vI a1.fE,vU a1.fm] 65,.cells V0 [vI a0.fH.fh,vI a0.fH.fe,vI a0.fH.fj,v0_3,v0_4,vI a0.fk] 119]) (fun ⟨b0,d0,q0⟩ E1=>Cells E1 (bl [.obj U0 (lpO C1 .ready none),.obj B0 (.deferred (some [])),.cells v0 [vU b0] 28,.cells X0 [(.slice (some ⟨t0,0,none⟩) a0.fk.toNat a0.fk.toNat)] 75,rr w 28 UInt64 (.slice (some ⟨t0,0,none⟩) a0.fk.toNat a0.fk.toNat) d0.length q0,.cells W0 [.string a1.ft,vI a1.fE,vU a1.fm] 65,.cells V0 [vI a0.fH.fh,vI a0.fH.fe,vI a0.fH.fj,v0_3,v0_4,vI a0.fk] 119] ++ L) q0 d0) (fun ⟨b0,d0,q0⟩=>(b0,d0)) (a1.fm,H1,(List.replicate a0.fk.toNat [vW 0]).flatten) g3 s2 (Ay H2 (Tt y2 (Tt C2 (Tt (iW C0 D1) E2)))) ?_
 rintro M3 ⟨b0,d0,q0⟩ E1 Z1 x0 u2 v1 h
 unfold am_l2 at h
 try dsimp only at h
 refine Ai<|Ae<|AL rfl ((x0.memA .t2) 0 _ rfl)<|Ab (FV.neqU (a:=b0) (b:=(0:UInt64)) rfl rfl)<|Aa<|MX.ifn rfl h (fun P1 h=>?_) (fun P1 h=>?_)
 refine AV rfl ?_
 have h:=V2 _ h
 try dsimp only at h
 refine MX.fin rfl<|Ar (u:=.tuple #[]) G2 func133 rfl .nil rfl<|MX.endRange0 x0 .hd (by intro h9; cases h9) fun A4 c2 v2=>?_
 obtain ⟨z0,x2⟩:=AH c2 .d1
 refine Aw<|Ai<|Ae<|AL rfl ((z0.memA .t2) 0 _ rfl) ?_
 have p4:d0.length <= 4294967296:=St.rowLe (α:=UInt64) z0 .t3
 obtain ⟨J3,R3,K2⟩:=St.rowV (α:=UInt64) z0 .t3
 refine Ab (FV.lenV underlying75 rfl K2)<|Ac rfl<|Aa<|Au ?_
 have b1:=z0.nilRow 28 (Rep.size UInt64)
 obtain ⟨d2,j1⟩:=AH b1 (.a0 (.a0 (.a2 .done)))
 obtain ⟨v4,j3,W2⟩:=ao h
 refine MX.lf (α:=Nat × (List UInt64) × Value × (List Value)) (fun ⟨g0,p0,k0,u0⟩=>[(4,k0),(28,(.slice (some ⟨t0,0,none⟩) a0.fk.toNat a0.fk.toNat)),(29,vI ((d0.length:Nat):Int)),(30,vI ((g0:Nat):Int))]) (fun ⟨g0,p0,k0,u0⟩=>[rr w 28 UInt64 k0 p0.length u0,.obj B0 (.deferred (some [])),rr w 28 UInt64 (.slice (some ⟨t0,0,none⟩) a0.fk.toNat a0.fk.toNat) d0.length q0]) (fun ⟨g0,p0,k0,u0⟩ F1=>Cells F1 (bl [rr w 28 UInt64 k0 p0.length u0,.obj B0 (.deferred (some [])),rr w 28 UInt64 (.slice (some ⟨t0,0,none⟩) a0.fk.toNat a0.fk.toNat) d0.length q0] ++ L) u0 p0) (fun ⟨g0,p0,k0,u0⟩=>(g0,p0)) (0,([]:List UInt64),vN,[]) j3 d2 (Ay (AB (cs:=[]) (xs:=([]:List UInt64)) b1 L (AG _ _)) j1) ?_
 rintro P3 ⟨g0,p0,k0,u0⟩ F1 Y0 A0 M0 P0 h
 unfold am_l1 at h
 try dsimp only at h
 refine Ae<|Ab (Bj (i:=g0) (j:=d0.length) rfl rfl)<|Aa<|Ai<|AO rfl h (fun Q1 h=>?_) (fun Q1 h=>?_)
 refine Ap<|Ai<|Au<|Ae<|bk h fun s0 v3 h=>?_
 obtain ⟨I1,U3,Q0,z1,U1,k3,b3⟩:=St.nth (α:=UInt64) A0 .t2 (Ay v1 (Tt v2 (Tt x2 (Tt (BJ z0 28 (Rep.size UInt64)) (Tt j1 M0))))) v3
 obtain ⟨K1,V3,M2⟩:=BL (α:=UInt64) A0 .t2 z1
 obtain rfl:I1 = ⟨K1,0,none⟩:=by rw [M2] at Q0; cases Q0; rfl
 have P2:U1 = [vU s0]:=k3; subst P2
 refine Ab (Bi 1 g0 rfl Q0 rfl rfl z1)<|AL rfl (b3 0 _ rfl)<|Af rfl<|Aa<|Ae<|Ac rfl<|Ab (FV.neqU (a:=s0) (b:=(0:UInt64)) rfl rfl)<|Aa<|MX.ifn rfl h (fun R1 h=>?_) (fun R1 h=>?_)
 refine Ap<|Aw<|Am<|Ab (Bf (i:=g0) (j:=1) rfl rfl (by omega))<|Ac rfl<|Aa<|Y0 (g0 + 1,p0,k0,u0) A0 M0 P0 h
 refine Am<|Ac rfl<|Ac rfl<|Ao .plain rfl (jA s0 (vU s0) A0 cT (e1 rfl)) fun D4 Q3 H0 k1=>bk h fun H3 B3 h=>BR .plain rfl (Bh (α:=UInt64) (ys:=([s0]:List UInt64)) B3 H0 (fun _ _=>.t1) cT rfl rfl (Ay P0 k1) (BN (α:=UInt64) H0 .hd (jC s0 (vU s0) H0 L rfl))) fun G3 E4 ⟨V1,g2,z2,I2⟩=>Af rfl<|Aa<|Aw<|Am<|Ab (Bf (i:=g0) (j:=1) rfl rfl (by omega))<|Ac rfl<|Aa ?_
 obtain ⟨j2,p1⟩:=AH g2 .d1
 exact Y0 (g0 + 1,H3,G3,V1) j2 (Tt M0 (Tt k1 (Tt z2 p1))) (Ay I2 p1) h
 refine AV rfl ?_
 have h:=W2 _ h
 try dsimp only at h
 refine Ae<|Ac rfl<|Af rfl<|Aa<|Ak rfl<|RT.take A0 .t1 fun F4 k2 A2=>?_
 obtain ⟨I0,B2⟩:=AH k2 (.a0 .d1)
 have J0:=Bq I0 .hd
 have j4:=Br I0 .hd
 have p3:=Bs (α:=UInt64) (v:=k0) (xs:=p0) J0 L (Ba (α:=UInt64) I0 .hd (Ay P0 (Tt A2 B2)) hL)
 refine AQ hb0 func68 rfl rfl ?_
 cases h
 exact ⟨J0.ag,fun p q=>⟨k0,rfl,J0.kd p3 q⟩⟩
 refine Ap<|Ai<|Au<|Ae<|Ac rfl<|AL rfl ((x0.memA .t2) 0 _ rfl)<|bk h fun F0 D3 h=>Bk (vI F0) (bd 134) rfl (e1 rfl) (fun p q=>br_c n (x0.hL0 hL q) b0 (hG0.keep (x0.ag.trans q)) D3) rfl<|RG.yieldP (fd:=68) (vs:=[vI F0]) .plain rfl (e1 rfl) x0 .hd F3 rfl rfl rfl fun Z3 F2 q4=>Am<|Af rfl<|Aa<|MX.begin x0 .hd fun G4 y0 q1=>Au<|du 12 fun c0 j0=>Rx 0 7360 c0 rfl j0 (AN rfl ((y0.memA .t3) 0 _ rfl))<|Rv 1 c0 rfl j0 (fun _=>Be 4 rfl)<|Rx 2 7408 c0 rfl j0 (AN rfl ((y0.memA .t6) 4 _ rfl))<|Rv 3 c0 rfl j0 (fun _=>Ah rfl)<|bk h fun E0 x3 h=>?_
 obtain ⟨X2,y3⟩:=aG x3
 obtain ⟨K3,W3,Q2,Y2,W1,q3,c3⟩:=Bg (AM h0_4 y0) y3
 have R2:W1 = [vI E0]:=q3; subst R2
 refine Rv 4 c0 rfl j0 (fun _=>Bi 1 (F0.toNat) rfl Q2 rfl X2 Y2)<|Rx 5 7360 c0 rfl j0 (AN rfl (c3 0 _ rfl))<|bk h fun G1 z3 h=>?_
 obtain ⟨y1,A3⟩:=aG z3
 have A1:=Ay v1 q1
 obtain ⟨J1,X3,D0,R0,X1,s3,d3⟩:=St.nth (α:=UInt64) y0 .t4 A1 A3
 obtain ⟨M1,Y3,x1⟩:=BL (α:=UInt64) y0 .t4 R0
 obtain rfl:J1 = ⟨M1,0,none⟩:=by rw [x1] at D0; cases D0; rfl
 have U2:X1 = [vU G1]:=s3; subst U2
 refine Rv 6 c0 rfl j0 (fun _=>Bi 1 (E0.toNat) rfl D0 rfl y1 R0)<|Rx 7 7168 c0 rfl j0 (AN rfl (d3 0 _ rfl))<|Rv 8 c0 rfl j0 (fun _=>Ah rfl)<|bk h fun E3 Z2 h=>Rv 9 c0 rfl j0 (fun _=>FV.shlI (a:=(1:UInt64)) (i:=F0) rfl rfl Z2)<|Rv 10 c0 rfl j0 (fun _=>FV.orU (a:=G1) (b:=shlU (1:UInt64) E3) rfl rfl)<|Rv 11 c0 rfl j0 (fun _=>Bi 1 (E0.toNat) rfl D0 rfl y1 R0)<|bk h fun I3 C3 h=>BS (i:=12) (rk c0) (RO.acts (m' :=8191) (sk c0) rfl rfl .plain (Acts.set (α:=UInt64) (i:=E0.toNat) C3 y0 x1 (fun _=>.t4) A1 rfl rfl rfl rfl rfl rfl) (fun I4 ⟨Y1,p2,D2,J2⟩=>?_))
 refine AR (dk c0)<|Aw<|MX.roundEnd F2 p2 .hd fun J4 K0 s1=>Ab (Bp rfl)<|Aa<|BA rfl<|Ap<|Aw<|Am<|AL rfl ((K0.memA .t2) 0 _ rfl)<|AL rfl ((K0.memA .t2) 0 _ rfl)<|Ab (FV.subU (a:=b0) (b:=(1:UInt64)) rfl rfl)<|Ab (FV.andU (a:=b0) (b:=b0 - (1:UInt64)) rfl rfl)<|AX [vW ((b0 &&& (b0 - (1:UInt64))).toNat:Int)] K0 .t2 (o1 rfl) fun K4 q2 u1=>Aa<|Z1 (b0 &&& (b0 - (1:UInt64)),I3,Y1) q2 (Tt u2 (Tt q1 (Tt D2 (Tt s1 u1)))) (Ay J2 (Tt s1 u1)) h
def aA_l1 (n:Nat) (a1:Tm) (d0:UInt64 × Int -> Option Int):UInt64 × Int -> Option Int
  | (b0,c0)=>(if b0 = (0:UInt64) then some c0 else (br_p n b0).bind fun k0=>(idx a1.fH.fm k0).bind fun j0=>(chk (c0 + j0.fx)).bind fun g0=>d0 (b0 &&& (b0 - (1:UInt64)),g0))
def aA_p (n:Nat) (a0:UInt64) (a1:Tm):Option Int:=
  Option.bind (ah (aA_l1 n a1) n (a0,0)) (fun b0=>some b0)
theorem aA_c (n:Nat) {L w} (hL:hl L w) (a0:UInt64) (a1:Tm) {v1_3:Value} (h1_3:Rep.R w L [v1_3] a1.fH.fm) {v1_4:Value} (_h1_4:Rep.R w L [v1_4] a1.fplan) {p1:Nat} (m1:∀ j9 v9,([vI a1.fH.fh,vI a1.fH.fe,vI a1.fH.fj,v1_3,v1_4,vI a1.fk]:List Value)[j9]? = some v9 -> w.cell? ((⟨p1,0,none⟩:Addr).add j9) = some v9) (hG0:Glob 0 tab0 w)  {r:Int} (h:aA_p n a0 a1 = some r) :
 Cl 96 #[vU a0,.pointer (some ⟨p1,0,none⟩)] w (ae w fun _ u=>u = vI r):=by
 unfold aA_p at h
 refine AF func96 rfl rfl rfl fun _ cs0 hb0=>Ae<|RG.nl [vI 0] (AC w) fun y1 B0 q0 G1=>Aa<|Ai<|Ae<|Ac rfl<|jE (bd 97) rfl (e1 rfl) (fun p q=>Calls.gives (dG_c n (q0.hL hL q) a0) fun (w8:World) (u8:Value) ⟨b0_,hu_,s_⟩=>(⟨b0_,hu_,s_.from q⟩:∃ k0:Nat,u8 = Value.func (.func 133) #[] #[vP k0]/\St y1 w8 [.cells k0 [vU a0] 28])) rfl fun s2 g2 R1 ⟨k0,k1,z0⟩=>?_
 subst k1
 have P1:=iW q0 z0
 refine Aa<|Au<|MX.rangeP (lb:=[vP k0]) rfl (ee q0 z0) rfl (bd 133) func133 rfl rfl rfl fun y2 x0 A0 v1 F1 J0 Q1 x1 V0 V1=>Au ?_
 obtain ⟨Z1,c1,X0⟩:=ao h
 refine BT (α:=UInt64 × Int) (fun ⟨b0,j0⟩=>[(0,.func (.yield x0) #[] #[]),(1,vP k0)]) (fun ⟨b0,j0⟩=>[.obj x0 (lpO v1 .ready none),.obj A0 (.deferred (some [])),.cells k0 [vU b0] 28,.cells B0 [vI j0] 3]) (fun ⟨b0,j0⟩=>(b0,j0)) (a0,0) c1 J0 ?_
 rintro B1 ⟨b0,j0⟩ z2 D0 g0 K0 h
 unfold aA_l1 at h
 try dsimp only at h
 refine Ai<|Ae<|AL rfl ((g0.memA .t2) 0 _ rfl)<|Ab (FV.neqU (a:=b0) (b:=(0:UInt64)) rfl rfl)<|Aa<|MX.ifn rfl h (fun C0 h=>?_) (fun C0 h=>?_)
 refine AV rfl ?_
 have h:=X0 _ h
 try dsimp only at h
 refine MX.fin rfl<|Ar (u:=.tuple #[]) V0 func133 rfl .nil rfl<|MX.endRange0 g0 .hd (by intro h9; cases h9) fun j2 E0 H1=>?_
 obtain ⟨u0,I1⟩:=AH E0 .d1
 refine Aw<|Ae<|AL rfl ((u0.memA .t2) 0 _ rfl)<|AX [vI j0] u0 .t2 (o1 rfl) fun k2 F0 J1=>Aa<|Ak rfl<|RT.take F0 .hd fun p2 G0 K1=>?_
 obtain ⟨v0,M1⟩:=AH G0 .d1
 refine Ar hb0 func96 rfl (.cons (.one rfl rfl ((v0.memA .t1) 0 _ rfl)) .nil) rfl ?_
 cases h
 exact v0.gv
 refine Ap<|Ai<|Au<|Ae<|Ac rfl<|AL rfl ((g0.memA .t2) 0 _ rfl)<|bk h fun t0 u1 h=>Bk (vI t0) (bd 134) rfl (e1 rfl) (fun p q=>br_c n (g0.hL0 hL q) b0 (hG0.keep (g0.ag.trans q)) u1) rfl<|RG.yieldP (fd:=96) (vs:=[vI t0]) .plain rfl (e1 rfl) g0 .hd x1 rfl rfl rfl fun D1 U0 U1=>Am<|Af rfl<|Aa<|MX.begin g0 .hd fun q2 p0 M0=>Au<|du 9 fun c0 d0=>Rx 0 768 c0 rfl d0 (AN rfl ((p0.memA .t3) 0 _ rfl))<|Rv 1 c0 rfl d0 (fun _=>Be 0 rfl)<|Rv 2 c0 rfl d0 (fun _=>Be 3 rfl)<|Rx 3 992 c0 rfl d0 (AN rfl ((eS (fun j9 v9 h9=>p0.ag.cell0 (m1 j9 v9 h9)) 0) 3 _ rfl))<|Rv 4 c0 rfl d0 (fun _=>Ah rfl)<|bk h fun z1 q1 h=>?_
 obtain ⟨Y0,s1⟩:=aG q1
 obtain ⟨A1,C1,W0,Z0,E1,g1,b1⟩:=Bg (AM h1_3 p0) s1
 obtain ⟨b2,c2,d2,rfl,W1,X1,Y1⟩:=bm g1
 refine Rv 5 c0 rfl d0 (fun _=>Bi 6 (t0.toNat) rfl W0 rfl Y0 Z0)<|Rv 6 c0 rfl d0 (fun _=>Be 1 rfl)<|Rx 7 768 c0 rfl d0 (AN rfl (b1 1 _ rfl))<|bk h fun y0 j1 h=>Rv 8 c0 rfl d0 (fun _=>BE (i:=j0) (j:=z1.fx) rfl rfl j1)<|BB 9 1023 c0 rfl rfl .plain (AD (news:=[vI y0]) p0 .t3 rfl rfl rfl rfl rfl rfl (o1 rfl)) fun u2 H0 P0=>AR (dk c0)<|Aw<|MX.roundEnd U0 H0 .hd fun v2 s0 Q0=>Ab (Bp rfl)<|Aa<|BA rfl<|Ap<|Aw<|Am<|AL rfl ((s0.memA .t2) 0 _ rfl)<|AL rfl ((s0.memA .t2) 0 _ rfl)<|Ab (FV.subU (a:=b0) (b:=(1:UInt64)) rfl rfl)<|Ab (FV.andU (a:=b0) (b:=b0 - (1:UInt64)) rfl rfl)<|AX [vW ((b0 &&& (b0 - (1:UInt64))).toNat:Int)] s0 .t2 (o1 rfl) fun x2 I0 R0=>Aa<|D0 (b0 &&& (b0 - (1:UInt64)),y0) I0 (Tt K0 (Tt M0 (Tt P0 (Tt Q0 R0)))) h
def av_l1 (n:Nat) (c0:List UInt64) (g0:Int × Nat -> Option Int):Int × Nat -> Option Int
  | (d0,b0)=>(if b0 < c0.length then (c0[b0]?).bind fun j0=>(aT_p n j0).bind fun k0=>g0 (max d0 k0,b0 + 1) else some d0)
def av_l2 (n:Nat) (c0:List UInt64) (a0:Tm) (g0:Int × Nat -> Option Int):Int × Nat -> Option Int
  | (d0,b0)=>(if b0 < c0.length then (c0[b0]?).bind fun j0=>(aA_p n j0 a0).bind fun k0=>g0 (max d0 k0,b0 + 1) else some d0)
def av_p (n:Nat) (a0:Tm) (a1:Ta):Option (Except Th Tb):=
  (aA_p n a1.fm a0).bind fun p0=>(if p0 = 0 then (am_p n a0 a1).bind fun q0=>Option.bind (ah (av_l1 n q0) n (0,0)) (fun x0=>(aT_p n a1.fm).bind fun s0=>(bO_p n x0 s0).bind fun t0=>exc t0 (fun u0=>some (.ok u0)) (fun c0=>some (.error c0))) else (am_p n a0 a1).bind fun d0=>Option.bind (ah (av_l2 n d0 a0) n (0,0)) (fun v0=>(aA_p n a1.fm a0).bind fun g0=>(bO_p n v0 g0).bind fun j0=>exc j0 (fun k0=>some (.ok k0)) (fun b0=>some (.error b0))))
theorem av_c (n:Nat) {L w} (hL:hl L w) (a0:Tm) {v0_3:Value} (h0_3:Rep.R w L [v0_3] a0.fH.fm) {v0_4:Value} (h0_4:Rep.R w L [v0_4] a0.fplan) (a1:Ta) (hG0:Glob 0 tab0 w)  {r:Except Th Tb} (h:av_p n a0 a1 = some r) :
 Cl 55 #[.agg #[vI a0.fH.fh,vI a0.fH.fe,vI a0.fH.fj,v0_3,v0_4,vI a0.fk],.agg #[.string a1.ft,vI a1.fE,vU a1.fm]] w (bj w (fun (y:Tb) _ u=>u = .agg ((ac y)).toArray) (fun e=>.iface 176 (.agg #[vI e.fF])) r):=by
 unfold av_p at h
 refine MX.startP func55 rfl rfl rfl fun _ cs0 hb0 hp0=>Ae<|RG.bx (AC w) rfl rfl fun U2 s0 c1 A2=>RG.bx c1 rfl rfl fun V2 t0 d1 B2=>RG.nl zL d1 fun Y2 u0 b0 E2=>Aa<|Ae<|Ab (FV.makeFunc (vs:=[]) (us:=[vP s0]) am (e1 rfl))<|Af rfl<|Aa<|Ae<|Ac rfl<|Af rfl<|Aa<|Ai<|Ae<|Ac rfl<|AT 2 rfl<|AL rfl ((b0.memA .t1) 2 _ rfl)<|bk h fun P0 V1 h=>RG.callq' (v:=vI P0) (fst:=[]) (cap:=[vP s0]) .plain (bd 96) rfl (e1 rfl) (fun p q=>aA_c n (b0.hL0 hL q) a1.fm a0 (b0.k0 h0_3 q) (b0.k0 h0_4 q) (aD q (b0.memA .t2)) (hG0.keep (b0.ag.trans q)) V1) rfl<|Ab (FV.eql (i:=P0) (j:=0) rfl rfl)<|Aa<|AO rfl h (fun R0 h=>?_) (fun R0 h=>?_)
 refine Am<|Af rfl<|Aa<|Ae<|Af rfl<|Aa<|Ai<|Ae<|Ab (AK rfl (b0.memA .t2))<|Ab (AK rfl (b0.memA .t1))<|bk h fun x0 W1 h=>jE (bd 68) rfl (e2 rfl rfl) (fun p q=>am_c n (b0.hL hL q) a0 (b0.km h0_3 q) (b0.km h0_4 q) a1 (hG0.keep (b0.ag.trans q)) W1) rfl fun Z2 b2 v1 ⟨M2,hu_,z0⟩=>?_
 subst hu_
 obtain ⟨j1,F2⟩:=b0.agr v1
 have H2:x0.length <= 281474976710656:=AS z0
 refine Ab (AW (xs:=x0) underlying75 rfl z0)<|Ac rfl<|Aa<|Au ?_
 obtain ⟨k1,p1⟩:=AH j1 (.a0 (.a0 .done))
 obtain ⟨J2,I1,C1⟩:=ao h
 refine BT (α:=Int × Nat) (fun ⟨q0,g0⟩=>[(3,vP t0),(4,vP u0),(6,.func (.func 46) #[] #[]),(7,vI q0),(19,b2),(20,vI ((x0.length:Nat):Int)),(21,vI ((g0:Nat):Int))]) (fun ⟨q0,g0⟩=>[.cells u0 zL 42,.cells t0 [.string a1.ft,vI a1.fE,vU a1.fm] 65]) (fun ⟨q0,g0⟩=>(q0,g0)) (0,0) I1 k1 ?_
 rintro p2 ⟨q0,g0⟩ c3 Y0 j0 J0 h
 unfold av_l1 at h
 try dsimp only at h
 refine Ae<|Ab (Bj (i:=g0) (j:=x0.length) rfl rfl)<|Aa<|Ai<|AO rfl h (fun U0 h=>?_) (fun U0 h=>?_)
 refine Ap<|Ai<|Au<|Ae<|bk h fun M0 P1 h=>?_
 obtain ⟨j2,s2,z1,E1,W0,K1,G1⟩:=Bg (Aq z0 (Tt p1 J0)) P1
 have A1:W0 = [vU M0]:=K1; subst A1
 refine Ab (Bi 1 g0 rfl z1 rfl rfl E1)<|AL rfl (G1 0 _ rfl)<|Af rfl<|Aa<|Am<|Ac rfl<|Ac rfl<|Ac rfl<|bk h fun E0 X1 h=>Bk (vI E0) (bd 46) rfl (e1 rfl) (fun p q=>aT_c n (j0.hL0 hL q) M0 X1) rfl<|Ab (FV.max2 (i:=q0) (j:=E0) rfl rfl)<|Af rfl<|Aa<|Aw<|Am<|Ab (Bf (i:=g0) (j:=1) rfl rfl (by omega))<|Ac rfl<|Aa<|Y0 (max q0 E0,g0 + 1) j0 J0 h
 refine AV rfl ?_
 have h:=C1 _ h
 try dsimp only at h
 refine Ae<|Ac rfl<|Ac rfl<|AT 2 rfl<|AL rfl ((j0.memA .t1) 2 _ rfl)<|bk h fun d2 Y1 h=>Bk (vI d2) (bd 46) rfl (e1 rfl) (fun p q=>aT_c n (j0.hL0 hL q) a1.fm Y1) rfl<|xk h (fun v2 B0 h=>?_) (fun F0 B0 h=>?_)
 refine BQ (fst:=[]) (cap:=[]) .plain (bd 64) rfl (e2 rfl rfl) (fun p q=>bO_c n (j0.hL0 hL q)  B0) fun P2 q1=>?_
 obtain ⟨Z0,x2⟩:=j0.agr q1
 cases h
 exact BD hp0 func55 ⟨Z0.ag,rfl⟩
 refine Bk (.agg ((ac F0)).toArray) (bd 64) rfl (e2 rfl rfl) (fun p q=>BC (bO_c n (j0.hL0 hL q)  B0)) rfl<|AX (ac F0) j0 .hd (aq rfl) fun Q2 G0 y2=>Aa<|Ak rfl<|Ar hb0 func55 rfl (.cons (.many (cs:=(ac F0)) rfl rfl (G0.memA .hd)) .nil) rfl ?_
 cases h
 exact ⟨G0.ag,fun p q=>aX rfl⟩
 refine Ap<|Ae<|Af rfl<|Aa<|Ai<|Ae<|Ab (AK rfl (b0.memA .t2))<|Ab (AK rfl (b0.memA .t1))<|bk h fun v0 Q1 h=>jE (bd 68) rfl (e2 rfl rfl) (fun p q=>am_c n (b0.hL hL q) a0 (b0.km h0_3 q) (b0.km h0_4 q) a1 (hG0.keep (b0.ag.trans q)) Q1) rfl fun R2 Z1 s1 ⟨K2,hu_,y0⟩=>?_
 subst hu_
 obtain ⟨b1,z2⟩:=b0.agr s1
 have G2:v0.length <= 281474976710656:=AS y0
 refine Ab (AW (xs:=v0) underlying75 rfl y0)<|Ac rfl<|Aa<|Au ?_
 obtain ⟨I2,H1,B1⟩:=ao h
 refine BT (α:=Int × Nat) (fun ⟨p0,d0⟩=>[(3,vP t0),(4,vP u0),(6,.func (.func 96) #[] #[vP s0]),(7,vI p0),(19,Z1),(20,vI ((v0.length:Nat):Int)),(21,vI ((d0:Nat):Int))]) (fun ⟨p0,d0⟩=>[.cells u0 zL 42,.cells t0 [.string a1.ft,vI a1.fE,vU a1.fm] 65,.cells s0 [vI a0.fH.fh,vI a0.fH.fe,vI a0.fH.fj,v0_3,v0_4,vI a0.fk] 119]) (fun ⟨p0,d0⟩=>(p0,d0)) (0,0) H1 b1 ?_
 rintro k2 ⟨p0,d0⟩ b3 X0 c0 I0 h
 unfold av_l2 at h
 try dsimp only at h
 refine Ae<|Ab (Bj (i:=d0) (j:=v0.length) rfl rfl)<|Aa<|Ai<|AO rfl h (fun Q0 h=>?_) (fun Q0 h=>?_)
 refine Ap<|Ai<|Au<|Ae<|bk h fun K0 M1 h=>?_
 obtain ⟨g2,q2,x1,D1,V0,J1,F1⟩:=Bg (Aq y0 I0) M1
 have y1:V0 = [vU K0]:=J1; subst y1
 refine Ab (Bi 1 d0 rfl x1 rfl rfl D1)<|AL rfl (F1 0 _ rfl)<|Af rfl<|Aa<|Am<|Ac rfl<|Ac rfl<|Ac rfl<|bk h fun C0 R1 h=>RG.callq' (v:=vI C0) (fst:=[]) (cap:=[vP s0]) .plain (bd 96) rfl (e1 rfl) (fun p q=>aA_c n (c0.hL0 hL q) K0 a0 (c0.k0 h0_3 q) (c0.k0 h0_4 q) (aD q (c0.memA .t2)) (hG0.keep (c0.ag.trans q)) R1) rfl<|Ab (FV.max2 (i:=p0) (j:=C0) rfl rfl)<|Af rfl<|Aa<|Aw<|Am<|Ab (Bf (i:=d0) (j:=1) rfl rfl (by omega))<|Ac rfl<|Aa<|X0 (max p0 C0,d0 + 1) c0 I0 h
 refine AV rfl ?_
 have h:=B1 _ h
 try dsimp only at h
 refine Ae<|Ac rfl<|Ac rfl<|AT 2 rfl<|AL rfl ((c0.memA .t1) 2 _ rfl)<|bk h fun c2 U1 h=>RG.callq' (v:=vI c2) (fst:=[]) (cap:=[vP s0]) .plain (bd 96) rfl (e1 rfl) (fun p q=>aA_c n (c0.hL0 hL q) a1.fm a0 (c0.k0 h0_3 q) (c0.k0 h0_4 q) (aD q (c0.memA .t2)) (hG0.keep (c0.ag.trans q)) U1) rfl<|xk h (fun u2 A0 h=>?_) (fun D0 A0 h=>?_)
 refine BQ (fst:=[]) (cap:=[]) .plain (bd 64) rfl (e2 rfl rfl) (fun p q=>bO_c n (c0.hL0 hL q)  A0) fun W2 u1=>?_
 obtain ⟨g1,C2⟩:=c0.agr u1
 cases h
 exact BD hp0 func55 ⟨g1.ag,rfl⟩
 refine Bk (.agg ((ac D0)).toArray) (bd 64) rfl (e2 rfl rfl) (fun p q=>BC (bO_c n (c0.hL0 hL q)  A0)) rfl<|AX (ac D0) c0 .hd (aq rfl) fun X2 H0 D2=>Aa<|Ak rfl<|Ar hb0 func55 rfl (.cons (.many (cs:=(ac D0)) rfl rfl (H0.memA .hd)) .nil) rfl ?_
 cases h
 exact ⟨H0.ag,fun p q=>aX rfl⟩
theorem kI {w:World} {L:List Nat} {cs:List Value} {x:Tb} (h:Rep.R w L cs x):cs = [vU x.fN.1,vU x.fN.2.1,vU x.fN.2.2.1,vU x.fN.2.2.2.1,vU x.fN.2.2.2.2.1,vU x.fN.2.2.2.2.2.1,vU x.fN.2.2.2.2.2.2.1,vU x.fN.2.2.2.2.2.2.2,vU x.fD.1,vU x.fD.2.1,vU x.fD.2.2.1,vU x.fD.2.2.2.1,vU x.fD.2.2.2.2.1,vU x.fD.2.2.2.2.2.1,vU x.fD.2.2.2.2.2.2.1,vU x.fD.2.2.2.2.2.2.2]:=by
  obtain ⟨c0,r0,rfl,h0,h⟩:=h
  obtain rfl:=nU (x:=x.fN) h0
  obtain rfl:=nU (x:=x.fD) h
  rfl
theorem ct {w:World} {L:List Nat} (a0:U8) (a1:U8):Rep.R w L [vU a0.1,vU a0.2.1,vU a0.2.2.1,vU a0.2.2.2.1,vU a0.2.2.2.2.1,vU a0.2.2.2.2.2.1,vU a0.2.2.2.2.2.2.1,vU a0.2.2.2.2.2.2.2,vU a1.1,vU a1.2.1,vU a1.2.2.1,vU a1.2.2.2.1,vU a1.2.2.2.2.1,vU a1.2.2.2.2.2.1,vU a1.2.2.2.2.2.2.1,vU a1.2.2.2.2.2.2.2] (⟨a0,a1⟩:Tb):=⟨[vU a0.1,vU a0.2.1,vU a0.2.2.1,vU a0.2.2.2.1,vU a0.2.2.2.2.1,vU a0.2.2.2.2.2.1,vU a0.2.2.2.2.2.2.1,vU a0.2.2.2.2.2.2.2],[vU a1.1,vU a1.2.1,vU a1.2.2.1,vU a1.2.2.2.1,vU a1.2.2.2.2.1,vU a1.2.2.2.2.2.1,vU a1.2.2.2.2.2.2.1,vU a1.2.2.2.2.2.2.2],rfl,nq a0.1 a0.2.1 a0.2.2.1 a0.2.2.2.1 a0.2.2.2.2.1 a0.2.2.2.2.2.1 a0.2.2.2.2.2.2.1 a0.2.2.2.2.2.2.2,nq a1.1 a1.2.1 a1.2.2.1 a1.2.2.2.1 a1.2.2.2.2.1 a1.2.2.2.2.2.1 a1.2.2.2.2.2.2.1 a1.2.2.2.2.2.2.2⟩
theorem im:ElT Tryz.prog 60 42 (Rep.size Tb) 128 (.agg zM) zL:=⟨underlying60,by kernel_rfl,rfl,rfl,rfl,rfl⟩
def aO_l1 (n:Nat) (a0:List Ta) (a1:Te) (a2:List Int) (a3:Int) (d0:Nat × (List Tb) -> Option (((List Tb) × Int) ⊕ (List Tb))):Nat × (List Tb) -> Option (((List Tb) × Int) ⊕ (List Tb))
  | (b0,c0)=>(if b0 < a0.length then (a0[b0]?).bind fun j0=>(av_p n (⟨a1,a2,a3⟩:Tm) j0).bind fun p0=>exc p0 (fun q0=>(app c0 ([q0]:List Tb)).bind fun k0=>d0 (b0 + 1,k0)) (fun g0=>some (.inl (([]:List Tb),g0.fF))) else some (.inr c0))
def aO_p (n:Nat) (a0:List Ta) (a1:Te) (a2:List Int) (a3:Int):Option ((List Tb) × Int):=
  (cb_p n a1 a2 a3).bind fun k0=>(aC_p n k0).bind fun p0=>exc p0 (fun _y64=>(a9_p n ((a2.length:Nat):Int) a0).bind fun g0=>(aC_p n g0).bind fun j0=>exc j0 (fun _y1303=>thn (ah (aO_l1 n a0 a1 a2 a3) n (0,([]:List Tb))) (fun d0=>some (d0,(0:Int)))) (fun b0=>some (([]:List Tb),b0.fF))) (fun c0=>some (([]:List Tb),c0.fF))
theorem aO_c (n:Nat) {L w} (hL:hl L w) {a0:List Ta} {v0_0:Value} (h0_0:Rep.R w L [v0_0] a0) (a1:Te) {v1_3:Value} (h1_3:Rep.R w L [v1_3] a1.fm) {a2:List Int} {v2_0:Value} (h2_0:Rep.R w L [v2_0] a2) {a3:Int} (hG0:Glob 0 tab0 w)  {r:(List Tb) × Int} (h:aO_p n a0 a1 a2 a3 = some r) :
 Cl 19 #[v0_0,.agg #[vI a1.fh,vI a1.fe,vI a1.fj,v1_3],v2_0,vI a3] w (ae w fun w' u=>∃ v0_0:Value,u = .tuple #[v0_0,vI r.2]/\Rep.R w' L [v0_0] r.1):=by
 unfold aO_p at h
 refine AF func19 rfl rfl rfl fun _ cs0 hb0=>Ae<|RG.bx (AC w) rfl rfl fun C5 D0 b1 I4=>Af rfl<|Af rfl<|Aa<|Ae<|Ac rfl<|Ab (AK rfl (b1.memA .hd))<|Ac rfl<|Ac rfl<|BH (fst:=[]) (cap:=[]) (vs:=[v0_0,.agg #[vI a1.fh,vI a1.fe,vI a1.fj,v1_3],v2_0,vI a3,.func (.func 55) #[] #[]]) .plain (bd 54) func54 rfl rfl rfl rfl (e5 rfl rfl rfl rfl rfl) rfl fun C4 Y0 z5=>Ae<|RG.bx b1 rfl (Rep.c1 (AM h0_0 b1)) fun H5 B0 g2 P4=>RG.bx g2 rfl rfl fun I5 s0 G1 W4=>RG.bx G1 rfl (Rep.c1 (AM h2_0 G1)) fun U5 t0 v2 Z4=>RG.bx v2 rfl rfl fun V5 u0 x2 b5=>RG.bx x2 rfl rfl fun c6 v0 E2 j5=>?_
 refine Af rfl<|Af rfl<|Aa<|Ae<|Ab (FV.makeFunc (vs:=[]) (us:=[vP s0,vP t0,vP u0,vP B0,vP v0]) am (e5 rfl rfl rfl rfl rfl))<|BH (fst:=[]) (cap:=[]) (vs:=[.func (.func 93) #[] #[vP s0,vP t0,vP u0,vP B0,vP v0]]) .plain (bd 92) func92 rfl rfl rfl rfl (e1 rfl) rfl fun E4 Z0 A5=>Ae<|RG.nl [vN] E2 fun d6 j0 F2 k5=>RG.nl [vI 0] F2 fun g6 d0 b0 p5=>Aa<|Ae<|Ab (FV.makeFunc (vs:=[]) (us:=[vP j0,vP d0]) am (e2 rfl rfl))<|RG.defer (fst:=[]) (cap:=[vP j0,vP d0]) (vs:=[]) rfl .plain rfl am<|Aa<|Ae<|Ac rfl<|BH (fst:=[]) (cap:=[vP s0,vP t0,vP u0,vP B0,vP v0]) (vs:=[]) .plain (bd 93) func93 rfl rfl rfl rfl am rfl fun F4 g3 u1=>Ae<|Af rfl<|Aa<|Ae<|Ab (AK rfl (b0.memA .t5))<|AL rfl ((b0.memA .t4) 0 _ rfl)<|AL rfl ((b0.memA .t3) 0 _ rfl)<|bk h fun Y3 P3 h=>Bk (vI Y3) (bd 95) rfl (e3 rfl rfl rfl) (fun p q=>cb_c n (b0.hL0 hL q) a1 (b0.k0 h1_3 q) (b0.k0 h2_0 q) P3) rfl<|xk h (fun G0 y1 h=>?_) (fun x6 y1 h=>?_)
 refine BQ (fst:=[]) (cap:=[]) .plain (bd 94) rfl (e1 rfl) (fun p q=>aC_c n (b0.hL0 hL q)  y1) fun j6 d3=>?_
 obtain ⟨G2,q5⟩:=b0.agr d3
 refine BD u1 func93<|PN.callD (vs:=[]) (cap:=[vP j0,vP d0]) (bd 128) func128 rfl rfl rfl fun B4 q3 z3=>Ae<|RG.recover1 .plain q3 rfl<|Af rfl<|Aa<|Ae<|Ac rfl<|Ab (FV.neqI underlying20 rfl rfl)<|Aa<|AZ rfl<|Ae<|Ac rfl<|Ab (FV.assertT rfl rfl)<|Ac rfl<|Ab (Aj rfl rfl)<|Ab (Aj rfl rfl)<|RG.nl [vI 0] G2 fun k6 s4 H2 s5=>AX [vI G0.fF] H2 .hd (o1 rfl) fun p6 X0 u5=>Af rfl<|Aa<|Ai<|Ae<|Ac rfl<|Ab (Bp rfl)<|Aa<|BA rfl<|Ap<|Ae<|Af rfl<|Aa<|du 3 fun z0 B1=>Rv 0 z0 rfl B1 (fun _=>Ah rfl)<|Rv 1 z0 rfl B1 (fun _=>Be 0 rfl)<|RD.mo (α:=Unit) (fun ()=>[(1,vP d0),(19,vI G0.fF)]) (fun ()=>[.cells d0 [vI 0] 35,.cells j0 [vN] 60,.cells v0 [.func (.func 55) #[] #[]] 116,.cells u0 [vI a3] 3,.cells t0 [v2_0] 53,.cells s0 [vI a1.fh,vI a1.fe,vI a1.fj,v1_3] 58,.cells B0 [v0_0] 30,.cells D0 [vI a1.fh,vI a1.fe,vI a1.fj,v1_3] 58]) X0 1 15 ?_ ?_
 rintro ⟨⟩ q6 X1 G4
 try dsimp only
 refine BB 4 31 z0 rfl rfl .plain (AD (news:=[vI G0.fF]) X1 .hd rfl rfl rfl rfl rfl rfl (o1 rfl)) fun D5 H0 H4=>AR (dk z0)<|MX.fin rfl<|RT.leaveD1 z3 func128 rfl .nil<|Ar (u:=.tuple #[vN,vI G0.fF]) Z0 func92 rfl (.cons (.one rfl rfl ((H0.memA .t1) 0 _ rfl)) (.cons (.one rfl rfl ((H0.memA .hd) 0 _ rfl)) .nil)) rfl<|Ab (Aj rfl rfl)<|Ab (Aj rfl rfl)<|Af rfl<|Af rfl<|Aa<|Ak rfl<|Ar (u:=.tuple #[vN,vI G0.fF]) Y0 func54 rfl (.cons (.tmp rfl) (.cons (.tmp rfl) .nil)) rfl<|Ab (Aj rfl rfl)<|Ab (Aj rfl rfl)<|Af rfl<|Af rfl<|Aa<|Ak rfl ?_
 have C3:=Rep.nilAt (α:=Tb) H0 L
 refine Ar hb0 func19 rfl (.cons (.tmp rfl) (.cons (.tmp rfl) .nil)) rfl ?_
 cases h
 exact ⟨H0.ag,fun p q=>⟨vN,rfl,H0.kd C3 q⟩⟩
 intro C1
 refine By [2,3] (rk z0) ⟨?_,?_,trivial⟩
 refine RO.val (m' :=7) (sk z0) rfl .plain rfl (AN rfl ((X0.memA .hd) 0 _ rfl))<|BB 3 15 z0 rfl rfl .plain (AD (news:=[vN]) X0 .t2 rfl rfl rfl rfl rfl rfl (o1 rfl)) fun V3 W0 s1=>?_
 obtain ⟨Y1,I2⟩:=AH W0 .d1
 exact C1 () Y1 (Tt s1 I2)
 refine RO.now (m' :=11) (sk z0) rfl rfl .plain (AD (news:=[vN]) X0 .t2 rfl rfl rfl rfl rfl rfl (o1 rfl)) fun V3 W0 s1=>Rx 2 16 z0 rfl B1 (AN rfl ((W0.memA .hd) 0 _ rfl)) ?_
 obtain ⟨Z1,J2⟩:=AH W0 .d1
 exact C1 () Z1 (Tt s1 J2)
 refine Bk (.tuple #[]) (bd 94) rfl (e1 rfl) (fun p q=>BC (aC_c n (b0.hL0 hL q)  y1)) rfl<|Aa<|Ae<|AL rfl ((b0.memA .t4) 0 _ rfl) ?_
 have M1:=AM h2_0 b0
 have x5:a2.length <= 281474976710656:=AS M1
 refine Ab (AW (xs:=a2) underlying53 rfl M1)<|AL rfl ((b0.memA .t6) 0 _ rfl)<|bk h fun X3 M3 h=>Bk (vI X3) (bd 13) rfl (e2 rfl rfl) (fun p q=>a9_c n (b0.hL0 hL q) (b0.k0 h0_0 q) M3) rfl<|xk h (fun E0 v1 h=>?_) (fun v6 v1 h=>?_)
 refine BQ (fst:=[]) (cap:=[]) .plain (bd 94) rfl (e1 rfl) (fun p q=>aC_c n (b0.hL0 hL q)  v1) fun E5 b3=>?_
 obtain ⟨b2,J4⟩:=b0.agr b3
 refine BD u1 func93<|PN.callD (vs:=[]) (cap:=[vP j0,vP d0]) (bd 128) func128 rfl rfl rfl fun u4 j3 u3=>Ae<|RG.recover1 .plain j3 rfl<|Af rfl<|Aa<|Ae<|Ac rfl<|Ab (FV.neqI underlying20 rfl rfl)<|Aa<|AZ rfl<|Ae<|Ac rfl<|Ab (FV.assertT rfl rfl)<|Ac rfl<|Ab (Aj rfl rfl)<|Ab (Aj rfl rfl)<|RG.nl [vI 0] b2 fun F5 j4 c2 K4=>AX [vI E0.fF] c2 .hd (o1 rfl) fun G5 Q0 M4=>Af rfl<|Aa<|Ai<|Ae<|Ac rfl<|Ab (Bp rfl)<|Aa<|BA rfl<|Ap<|Ae<|Af rfl<|Aa<|du 3 fun x0 z1=>Rv 0 x0 rfl z1 (fun _=>Ah rfl)<|Rv 1 x0 rfl z1 (fun _=>Be 0 rfl)<|RD.mo (α:=Unit) (fun ()=>[(1,vP d0),(19,vI E0.fF)]) (fun ()=>[.cells d0 [vI 0] 35,.cells j0 [vN] 60,.cells v0 [.func (.func 55) #[] #[]] 116,.cells u0 [vI a3] 3,.cells t0 [v2_0] 53,.cells s0 [vI a1.fh,vI a1.fe,vI a1.fj,v1_3] 58,.cells B0 [v0_0] 30,.cells D0 [vI a1.fh,vI a1.fe,vI a1.fj,v1_3] 58]) Q0 1 15 ?_ ?_
 rintro ⟨⟩ s6 j2 Q4
 try dsimp only
 refine BB 4 31 x0 rfl rfl .plain (AD (news:=[vI E0.fF]) j2 .hd rfl rfl rfl rfl rfl rfl (o1 rfl)) fun J5 I0 R4=>AR (dk x0)<|MX.fin rfl<|RT.leaveD1 u3 func128 rfl .nil<|Ar (u:=.tuple #[vN,vI E0.fF]) Z0 func92 rfl (.cons (.one rfl rfl ((I0.memA .t1) 0 _ rfl)) (.cons (.one rfl rfl ((I0.memA .hd) 0 _ rfl)) .nil)) rfl<|Ab (Aj rfl rfl)<|Ab (Aj rfl rfl)<|Af rfl<|Af rfl<|Aa<|Ak rfl<|Ar (u:=.tuple #[vN,vI E0.fF]) Y0 func54 rfl (.cons (.tmp rfl) (.cons (.tmp rfl) .nil)) rfl<|Ab (Aj rfl rfl)<|Ab (Aj rfl rfl)<|Af rfl<|Af rfl<|Aa<|Ak rfl ?_
 have D3:=Rep.nilAt (α:=Tb) I0 L
 refine Ar hb0 func19 rfl (.cons (.tmp rfl) (.cons (.tmp rfl) .nil)) rfl ?_
 cases h
 exact ⟨I0.ag,fun p q=>⟨vN,rfl,I0.kd D3 q⟩⟩
 intro D1
 refine By [2,3] (rk x0) ⟨?_,?_,trivial⟩
 refine RO.val (m' :=7) (sk x0) rfl .plain rfl (AN rfl ((Q0.memA .hd) 0 _ rfl))<|BB 3 15 x0 rfl rfl .plain (AD (news:=[vN]) Q0 .t2 rfl rfl rfl rfl rfl rfl (o1 rfl)) fun R3 R0 p1=>?_
 obtain ⟨k2,K2⟩:=AH R0 .d1
 exact D1 () k2 (Tt p1 K2)
 refine RO.now (m' :=11) (sk x0) rfl rfl .plain (AD (news:=[vN]) Q0 .t2 rfl rfl rfl rfl rfl rfl (o1 rfl)) fun R3 R0 p1=>Rx 2 16 x0 rfl z1 (AN rfl ((R0.memA .hd) 0 _ rfl)) ?_
 obtain ⟨p2,M2⟩:=AH R0 .d1
 exact D1 () p2 (Tt p1 M2)
 refine Bk (.tuple #[]) (bd 94) rfl (e1 rfl) (fun p q=>BC (aC_c n (b0.hL0 hL q)  v1)) rfl<|Aa<|Ai<|Ae<|AL rfl ((b0.memA .t6) 0 _ rfl) ?_
 have P1:=AM h0_0 b0
 have y5:a0.length <= 281474976710656:=AS P1
 refine Ab (AW (xs:=a0) underlying30 rfl P1)<|Ac rfl<|Aa<|Au ?_
 have g1:=b0.nilRow 42 (Rep.size Tb)
 have U4:=BJ b0 42 (Rep.size Tb)
 have F1:=g1.nilRow 42 (Rep.size Tb)
 have v5:=AB (cs:=[]) (xs:=([]:List Tb)) F1 L (AG _ _)
 refine tn h fun B5 B3 K1=>MX.lf (α:=Nat × (List Tb) × Value × (List Value)) (fun ⟨p0,A0,g0,C0⟩=>[(0,vP s0),(1,vP t0),(2,vP u0),(4,vP v0),(5,g0),(18,v0_0),(19,vI ((a0.length:Nat):Int)),(20,vI ((p0:Nat):Int))]) (fun ⟨p0,A0,g0,C0⟩=>[rr w 42 Tb vN (([]:List Tb).length) [],rr w 42 Tb g0 A0.length C0,.cells d0 [vI 0] 35,.cells j0 [vN] 60,.cells v0 [.func (.func 55) #[] #[]] 116,.cells u0 [vI a3] 3,.cells t0 [v2_0] 53,.cells s0 [vI a1.fh,vI a1.fe,vI a1.fj,v1_3] 58,.cells B0 [v0_0] 30,.cells D0 [vI a1.fh,vI a1.fe,vI a1.fj,v1_3] 58]) (fun ⟨p0,A0,g0,C0⟩ R1=>Cells R1 (bl [rr w 42 Tb vN (([]:List Tb).length) [],rr w 42 Tb g0 A0.length C0,.cells d0 [vI 0] 35,.cells j0 [vN] 60,.cells v0 [.func (.func 55) #[] #[]] 116,.cells u0 [vI a3] 3,.cells t0 [v2_0] 53,.cells s0 [vI a1.fh,vI a1.fe,vI a1.fj,v1_3] 58,.cells B0 [v0_0] 30,.cells D0 [vI a1.fh,vI a1.fe,vI a1.fj,v1_3] 58] ++ L) C0 A0) (fun ⟨p0,A0,g0,C0⟩=>(p0,A0)) (0,([]:List Tb),vN,[]) B3 F1 (Ay (AB (cs:=[]) (xs:=([]:List Tb)) g1 L (AG _ _)) (BJ g1 42 (Rep.size Tb))) ?_
 rintro g4 ⟨p0,A0,g0,C0⟩ R1 W1 J0 P2 I1 h
 unfold aO_l1 at h
 try dsimp only at h
 refine Ae<|Ab (Bj (i:=p0) (j:=a0.length) rfl rfl)<|Aa<|Ai<|AO rfl h (fun U1 h=>?_) (fun U1 h=>?_)
 refine Ap<|Ai<|Au<|Ae<|bk h fun P0 J3 h=>?_
 obtain ⟨Z3,v4,s3,v3,D4,E3,A3⟩:=Bg (AM h0_0 J0) J3
 obtain rfl:=bw E3
 refine Ab (Bi 3 p0 rfl s3 rfl rfl v3)<|Ab (AK rfl A3)<|RG.nl [.string ⟨#[]⟩,vI 0,vW 0] J0 fun K5 k4 q2 Q2=>AX [.string P0.ft,vI P0.fE,vU P0.fm] q2 .hd (aq rfl) fun M5 c0 R2=>Aa<|Am<|Ac rfl<|AL rfl ((c0.memA .t5) 0 _ rfl)<|Ab (AK rfl (c0.memA .t8))<|AL rfl ((c0.memA .t7) 0 _ rfl)<|AL rfl ((c0.memA .t6) 0 _ rfl) ?_
 obtain ⟨b4,x4,H3,_⟩:=BI (AM h1_3 c0)
 obtain ⟨c4,y4,I3,_⟩:=BI (AM h2_0 c0)
 refine Ab (AU (vs:=[.agg #[vI a1.fh,vI a1.fe,vI a1.fj,v1_3],v2_0,vI a3]) (u:=.agg #[vI a1.fh,vI a1.fe,vI a1.fj,v1_3,v2_0,vI a3]) (e3 rfl rfl rfl) (fun p=>by rw [H3,I3]; try kernel_rfl))<|Ab (AK rfl (c0.memA .hd))<|xk h (fun F0 x1 h=>?_) (fun q0 x1 h=>?_)
 have h:=ap h K1
 refine BQ (fst:=[]) (cap:=[]) .plain (bd 55) rfl (e2 rfl rfl) (fun p q=>av_c n (c0.hL0 hL q) (⟨a1,a2,a3⟩:Tm) (c0.k0 h1_3 q) (c0.k0 h2_0 q) P0 (hG0.keep (c0.ag.trans q)) x1) fun P5 c3=>?_
 obtain ⟨s2,V4⟩:=c0.agr c3
 refine BD u1 func93<|PN.callD (vs:=[]) (cap:=[vP j0,vP d0]) (bd 128) func128 rfl rfl rfl fun z4 k3 x3=>Ae<|RG.recover1 .plain k3 rfl<|Af rfl<|Aa<|Ae<|Ac rfl<|Ab (FV.neqI underlying20 rfl rfl)<|Aa<|AZ rfl<|Ae<|Ac rfl<|Ab (FV.assertT rfl rfl)<|Ac rfl<|Ab (Aj rfl rfl)<|Ab (Aj rfl rfl)<|RG.nl [vI 0] s2 fun Q5 p4 u2 X4=>AX [vI F0.fF] u2 .hd (o1 rfl) fun R5 U0 Y4=>Af rfl<|Aa<|Ai<|Ae<|Ac rfl<|Ab (Bp rfl)<|Aa<|BA rfl<|Ap<|Ae<|Af rfl<|Aa<|du 3 fun y0 A1=>Rv 0 y0 rfl A1 (fun _=>Ah rfl)<|Rv 1 y0 rfl A1 (fun _=>Be 0 rfl)<|RD.mo (α:=Unit) (fun ()=>[(1,vP d0),(19,vI F0.fF)]) (fun ()=>[.cells d0 [vI 0] 35,.cells j0 [vN] 60,.cells v0 [.func (.func 55) #[] #[]] 116,.cells u0 [vI a3] 3,.cells t0 [v2_0] 53,.cells s0 [vI a1.fh,vI a1.fe,vI a1.fj,v1_3] 58,.cells B0 [v0_0] 30,.cells D0 [vI a1.fh,vI a1.fe,vI a1.fj,v1_3] 58]) U0 1 15 ?_ ?_
 rintro ⟨⟩ u6 y2 c5
 try dsimp only
 refine BB 4 31 y0 rfl rfl .plain (AD (news:=[vI F0.fF]) y2 .hd rfl rfl rfl rfl rfl rfl (o1 rfl)) fun W5 K0 d5=>AR (dk y0)<|MX.fin rfl<|RT.leaveD1 x3 func128 rfl .nil<|Ar (u:=.tuple #[vN,vI F0.fF]) Z0 func92 rfl (.cons (.one rfl rfl ((K0.memA .t1) 0 _ rfl)) (.cons (.one rfl rfl ((K0.memA .hd) 0 _ rfl)) .nil)) rfl<|Ab (Aj rfl rfl)<|Ab (Aj rfl rfl)<|Af rfl<|Af rfl<|Aa<|Ak rfl<|Ar (u:=.tuple #[vN,vI F0.fF]) Y0 func54 rfl (.cons (.tmp rfl) (.cons (.tmp rfl) .nil)) rfl<|Ab (Aj rfl rfl)<|Ab (Aj rfl rfl)<|Af rfl<|Af rfl<|Aa<|Ak rfl ?_
 have F3:=Rep.nilAt (α:=Tb) K0 L
 refine Ar hb0 func19 rfl (.cons (.tmp rfl) (.cons (.tmp rfl) .nil)) rfl ?_
 cases h
 exact ⟨K0.ag,fun p q=>⟨vN,rfl,K0.kd F3 q⟩⟩
 intro E1
 refine By [2,3] (rk y0) ⟨?_,?_,trivial⟩
 refine RO.val (m' :=7) (sk y0) rfl .plain rfl (AN rfl ((U0.memA .hd) 0 _ rfl))<|BB 3 15 y0 rfl rfl .plain (AD (news:=[vN]) U0 .t5 rfl rfl rfl rfl rfl rfl (o1 rfl)) fun U3 V0 q1=>?_
 obtain ⟨z2,U2⟩:=AH V0 .d4
 exact E1 () z2 (Tt q1 U2)
 refine RO.now (m' :=11) (sk y0) rfl rfl .plain (AD (news:=[vN]) U0 .t5 rfl rfl rfl rfl rfl rfl (o1 rfl)) fun U3 V0 q1=>Rx 2 16 y0 rfl A1 (AN rfl ((V0.memA .hd) 0 _ rfl)) ?_
 obtain ⟨A2,V2⟩:=AH V0 .d4
 exact E1 () A2 (Tt q1 V2)
 refine Bk (.agg ((ac q0)).toArray) (bd 55) rfl (e2 rfl rfl) (fun p q=>BC (av_c n (c0.hL0 hL q) (⟨a1,a2,a3⟩:Tm) (c0.k0 h1_3 q) (c0.k0 h2_0 q) P0 (hG0.keep (c0.ag.trans q)) x1)) rfl<|Ao .plain rfl (AJ (α:=Tb) (xs:=([q0]:List Tb)) (vs:=[.agg ((ac q0)).toArray]) (ds' :=(ac q0)) rfl c0 im rfl (e1 rfl) (by kernel_rfl) rfl) fun X5 q4 j1 W2=>bk h fun W3 K3 h=>?_
 have Q1:=Tt Q2 (Tt R2 W2)
 refine BR .plain rfl (Bh (α:=Tb) (ys:=([q0]:List Tb)) K3 j1 (fun _ _=>.t3) im rfl rfl (Ay I1 Q1) (BN (α:=Tb) j1 .hd (AB (cs:=(ac q0)) (xs:=(([q0]:List Tb):List Tb)) j1 L (Ax (cs:=(ac q0)) (ds:=[]) (ct q0.fN q0.fD) (AG _ _))))) fun Q3 Y5 ⟨V1,B2,X2,p3⟩=>Af rfl<|Aa<|Aw<|Am<|Ab (Bf (i:=p0) (j:=1) rfl rfl (by omega))<|Ac rfl<|Aa ?_
 obtain ⟨C2,H1⟩:=AH B2 .d2
 exact W1 (p0 + 1,W3,Q3,V1) C2 (Tt P2 (Tt Q1 (Tt X2 H1))) (Ay p3 H1) h
 refine AV rfl ?_
 have h:=aA h K1
 try dsimp only at h
 refine Ae<|Ac rfl<|Af rfl<|Aa<|Ak rfl<|Ar (u:=g0) g3 func93 rfl (.cons (.tmp rfl) .nil) rfl<|RG.now .plain (AD (news:=[g0]) J0 .t3 rfl rfl rfl (St.c1 (α:=Tb) J0 .t1) rfl rfl (o1 (St.o1 (α:=Tb) J0 .t1))) fun Z5 D2 Y2=>AX [vI 0] D2 .t2 (o1 rfl) fun b6 M0 Z2=>Aa<|Ak rfl<|RT.callD (vs:=[]) (cap:=[vP j0,vP d0]) (bd 128) func128 rfl rfl rfl fun A4 J1 y3=>Ae<|RG.recover0 .plain J1 rfl<|Af rfl<|Aa<|Ae<|Ac rfl<|Ab (FV.neqI0 underlying20 rfl rfl)<|Aa<|BA rfl<|Ap<|MX.fin rfl<|RT.leaveD0 J1 y3 func128 rfl .nil<|Ar (u:=.tuple #[g0,vI 0]) Z0 func92 rfl (.cons (.one rfl rfl ((M0.memA .t3) 0 _ rfl)) (.cons (.one rfl rfl ((M0.memA .t2) 0 _ rfl)) .nil)) rfl<|Ab (Aj rfl rfl)<|Ab (Aj rfl rfl)<|Af rfl<|Af rfl<|Aa<|Ak rfl<|Ar (u:=.tuple #[g0,vI 0]) Y0 func54 rfl (.cons (.tmp rfl) (.cons (.tmp rfl) .nil)) rfl<|Ab (Aj rfl rfl)<|Ab (Aj rfl rfl)<|Af rfl<|Af rfl<|Aa<|Ak rfl ?_
 have k1:=Bq M0 .t1
 have g5:=Br M0 .t1
 have G3:=Bs (α:=Tb) (v:=g0) (xs:=A0) k1 L (Ba (α:=Tb) M0 .t1 (Ay I1 (Tt Y2 Z2)) hL)
 refine Ar hb0 func19 rfl (.cons (.tmp rfl) (.cons (.tmp rfl) .nil)) rfl ?_
 cases h
 exact ⟨k1.ag,fun p q=>⟨g0,rfl,k1.kd G3 q⟩⟩
def cr_p (n:Nat) (a0:Int) (a1:Int):Option Tb:=
  (dp_p n a0 a1).bind fun b0=>some b0.1
theorem cr_c (n:Nat) {L w} (hL:hl L w) {a0:Int} {a1:Int}  {r:Tb} (h:cr_p n a0 a1 = some r) :
 Cl 20 #[vI a0,vI a1] w (ae w fun _ u=>u = .agg ((ac r)).toArray):=by
 unfold cr_p at h
 refine AF func20 rfl rfl rfl fun _ cs0 hb0=>Ae<|RG.nl zL (AC w) fun x0 p0 c0 s0=>Aa<|Ae<|Ac rfl<|Ac rfl<|bk h fun b0 k0 h=>Bk (.tuple #[.agg ((ac b0.1)).toArray,vI b0.2]) (bd 45) rfl (e2 rfl rfl) (fun p q=>dp_c n (c0.hL0 hL q)  k0) rfl<|Ac rfl<|Ab (Aj rfl rfl)<|Ab (Aj rfl rfl)<|RG.nl zL c0 fun y0 q0 j0 t0=>AX (ac b0.1) j0 .hd (aq rfl) fun z0 d0 u0=>Af rfl<|Aa<|Ae<|Ab (AK rfl (d0.memA .hd))<|AX (ac b0.1) d0 .t1 (aq rfl) fun A0 g0 v0=>Aa<|Ak rfl<|Ar hb0 func20 rfl (.cons (.many (cs:=(ac b0.1)) rfl rfl (g0.memA .t1)) .nil) rfl ?_
 cases h
 exact g0.gv
def bT_p (n:Nat) (a0:Ti) (a1:Int):Option (Tb × Int):=
  (if a1 = 0 then (bX_p n a0).bind fun b0=>some (b0.1,b0.2) else some ((⟨(0,0,0,0,0,0,0,0),(0,0,0,0,0,0,0,0)⟩:Tb),a1))
theorem bT_c (n:Nat) {L w} (hL:hl L w) (a0:Ti) {v0_1:Value} (h0_1:Rep.R w L [v0_1] a0.fG.fu) {v0_3:Value} (h0_3:Rep.R w L [v0_3] a0.fy.fu) {a1:Int}  {r:Tb × Int} (h:bT_p n a0 a1 = some r) :
 Cl 56 #[.agg #[.bool a0.fG.fc,v0_1,.bool a0.fy.fc,v0_3],vI a1] w (ae w fun _ u=>u = .tuple #[.agg ((ac r.1)).toArray,vI r.2]):=by
 unfold bT_p at h
 refine AF func56 rfl rfl rfl fun _ cs0 hb0=>Ae<|RG.bx (AC w) rfl rfl fun z0 s0 p0 u0=>RG.nl zL p0 fun A0 t0 b0 v0=>Af rfl<|Aa<|Ai<|Ae<|Ac rfl<|Ab (FV.neq (i:=a1) (j:=0) rfl rfl)<|Aa<|MX.ifn rfl h (fun j0 h=>?_) (fun j0 h=>?_)
 refine Ap<|Ae<|Ab (AK rfl (b0.memA .t1))<|bk h fun c0 q0 h=>Bk (.tuple #[.agg ((ac c0.1)).toArray,vI c0.2]) (bd 98) rfl (e1 rfl) (fun p q=>bX_c n (b0.hL0 hL q) a0 (b0.k0 h0_1 q) (b0.k0 h0_3 q) q0) rfl<|Ab (Aj rfl rfl)<|Ab (Aj rfl rfl)<|AX (ac c0.1) b0 .hd (aq rfl) fun B0 d0 x0=>Af rfl<|Aa<|Ak rfl<|Ar hb0 func56 rfl (.cons (.many (cs:=(ac c0.1)) rfl rfl (d0.memA .hd)) (.cons (.tmp rfl) .nil)) rfl ?_
 cases h
 exact d0.gv
 refine Ae<|Ab (AU (vs:=[]) (u:=.agg zM) am (fun p=>by kernel_rfl))<|Ac rfl<|AX zL b0 .hd (aq rfl) fun C0 g0 y0=>Af rfl<|Aa<|Ak rfl<|Ar hb0 func56 rfl (.cons (.many (cs:=zL) rfl rfl (g0.memA .hd)) (.cons (.tmp rfl) .nil)) rfl ?_
 cases h
 exact g0.gv
def bN_p (n:Nat) (a0:Tb):Option Ti:=
  (cd_p n a0.fN).bind fun b0=>(cd_p n a0.fD).bind fun c0=>some (⟨b0,c0⟩:Ti)
theorem bN_c (n:Nat) {L w} (hL:hl L w) (a0:Tb)  {r:Ti} (h:bN_p n a0 = some r) :
 Cl 100 #[.agg ((ac a0)).toArray] w (ae w fun w' u=>∃ v0_1 v0_3:Value,u = .agg #[.bool r.fG.fc,v0_1,.bool r.fy.fc,v0_3]/\Rep.R w' L [v0_1] r.fG.fu/\Rep.R w' L [v0_3] r.fy.fu):=by
 unfold bN_p at h
 refine AF func100 rfl rfl rfl fun _ cs0 hb0=>Ae<|RG.bx (AC w) rfl rfl fun X0 J0 z0 Q0=>RG.nl [.bool false,vN,.bool false,vN] z0 fun Y0 K0 j0 R0=>Aa<|Ai<|du 7 fun b0 c0=>Rv 0 b0 rfl c0 (fun _=>Be 0 rfl)<|Rx 1 228 b0 rfl c0 (Bo (cs:=(ak a0.fN)) rfl rfl (ai (j0.memA .t1) 0 8))<|Rv 3 b0 rfl c0 (fun _=>Be 8 rfl)<|Rx 4 224 b0 rfl c0 (Bo (cs:=(ak a0.fD)) rfl rfl (ai (j0.memA .t1) 8 8))<|bk h fun p0 F0 h=>Bu 2 31 b0 rfl .plain (bd 126) rfl (e1 rfl) (fun p q=>cd_c n (j0.hL hL q) a0.fN F0) rfl fun Z0 V0 B0 ⟨d0,hu_,y0⟩=>?_
 subst hu_
 obtain ⟨t0,U0⟩:=j0.agr B0
 refine bk h fun q0 G0 h=>Bu 5 63 b0 rfl .plain (bd 126) rfl (e1 rfl) (fun p q=>cd_c n (t0.hL hL q) a0.fD G0) rfl fun b1 W0 C0 ⟨g0,hu_,s0⟩=>?_
 subst hu_
 obtain ⟨A0,u0⟩:=t0.agr C0
 have x0:=Aq y0 u0
 obtain ⟨H0,M0,D0,_⟩:=BI x0
 obtain ⟨I0,P0,E0,_⟩:=BI s0
 refine Rv 6 b0 rfl c0 (fun _=>AU (vs:=[.agg #[.bool p0.fc,d0],.agg #[.bool q0.fc,g0]]) (u:=.agg #[.bool p0.fc,d0,.bool q0.fc,g0]) (e2 rfl rfl) (fun p=>by rw [D0,E0]; try kernel_rfl))<|BB 7 255 b0 rfl rfl .plain (AD (news:=[.bool p0.fc,d0,.bool q0.fc,g0]) A0 .hd rfl rfl rfl rfl rfl rfl (o4 rfl (AY x0) rfl (AY s0))) fun c1 k0 v0=>AR (dk b0)<|Ak rfl<|Ar hb0 func100 rfl (.cons (.many (cs:=[.bool p0.fc,d0,.bool q0.fc,g0]) rfl rfl (k0.memA .hd)) .nil) rfl ?_
 cases h
 exact ⟨k0.ag,fun p q=>⟨d0,g0,rfl,k0.kd (Aq y0 (Tt u0 v0)) q,k0.kd (Aq s0 v0) q⟩⟩
def cG_p (_n:Nat) (a0:Tf):Option Int:=
  (if a0.fc = true then some (-1:Int) else (if a0.fu.length = 0 then some (0:Int) else some (1:Int)))
theorem cG_c (n:Nat) {L w} (_hL:hl L w) (a0:Tf) {v0_1:Value} (h0_1:Rep.R w L [v0_1] a0.fu)  {r:Int} (h:cG_p n a0 = some r) :
 Cl 171 #[.agg #[.bool a0.fc,v0_1]] w (ae w fun _ u=>u = vI r):=by
 unfold cG_p at h
 refine AF func171 rfl rfl rfl fun _ cs0 hb0=>Ae<|RG.bx (AC w) rfl rfl fun q0 j0 b0 k0=>Af rfl<|Aa<|Ai<|Au<|Ae<|AT 0 rfl<|AL rfl ((b0.memA .hd) 0 _ rfl)<|Af rfl<|Aa<|MX.ifb rfl h (fun d0 h=>?_) (fun d0 h=>?_)
 refine Ae<|Af rfl<|Aa<|Ak rfl<|AQ hb0 func171 rfl rfl ?_
 cases h
 exact b0.gv
 refine Ae<|AT 1 rfl<|AL rfl ((b0.memA .hd) 1 _ rfl) ?_
 have c0:=AM h0_1 b0
 have p0:a0.fu.length <= 281474976710656:=AS c0
 refine Ab (AW (xs:=a0.fu) underlying75 rfl c0)<|Ab (BF (i:=a0.fu.length) (j:=0) rfl rfl)<|Af rfl<|Aa<|AO rfl h (fun g0 h=>?_) (fun g0 h=>?_)
 refine Ae<|Af rfl<|Aa<|Ak rfl<|AQ hb0 func171 rfl rfl ?_
 cases h
 exact b0.gv
 refine Ap<|Aw<|Ae<|Af rfl<|Aa<|Ak rfl<|AQ hb0 func171 rfl rfl ?_
 cases h
 exact b0.gv

def dc_p (n:Nat) (a0:Tf) (a1:Tf):Option Tf:=
  (bZ_p n a1).bind fun b0=>(bY_p n a0 b0).bind fun c0=>some c0
theorem dc_c (n:Nat) {L w} (hL:hl L w) (a0:Tf) {v0_1:Value} (h0_1:Rep.R w L [v0_1] a0.fu) (a1:Tf) {v1_1:Value} (h1_1:Rep.R w L [v1_1] a1.fu)  {r:Tf} (h:dc_p n a0 a1 = some r) :
 Cl 175 #[.agg #[.bool a0.fc,v0_1],.agg #[.bool a1.fc,v1_1]] w (ae w fun w' u=>∃ v0_1:Value,u = .agg #[.bool r.fc,v0_1]/\Rep.R w' L [v0_1] r.fu):=by
 unfold dc_p at h
 refine AF func175 rfl rfl rfl fun _ cs0 hb0=>Ae<|RG.bx (AC w) rfl rfl fun R0 D0 s0 G0=>RG.bx s0 rfl rfl fun U0 E0 t0 H0=>RG.nl [.bool false,vN] t0 fun V0 F0 c0 I0=>Aa<|Ai<|du 4 fun b0 p0=>Rx 0 24 b0 rfl p0 (AK rfl (c0.memA .t2))<|Rx 1 28 b0 rfl p0 (AK rfl (c0.memA .t1))<|bk h fun C0 A0 h=>Bu 2 7 b0 rfl .plain (bd 141) rfl (e1 rfl) (fun p q=>bZ_c n (c0.hL hL q) a1 (c0.km h1_1 q) A0) rfl fun W0 P0 x0 ⟨M0,hu_,z0⟩=>?_
 subst hu_
 obtain ⟨d0,J0⟩:=c0.agr x0
 refine bk h fun q0 B0 h=>Bu 3 15 b0 rfl .plain (bd 103) rfl (e2 rfl rfl) (fun p q=>bY_c n (d0.hL hL q) a0 (d0.km h0_1 q) C0 (Av z0 q) B0) rfl fun X0 Q0 y0 ⟨j0,hu_,k0⟩=>?_
 subst hu_
 obtain ⟨u0,K0⟩:=d0.agr y0
 refine BB 4 31 b0 rfl rfl .plain (AD (news:=[.bool q0.fc,j0]) u0 .hd rfl rfl rfl rfl rfl rfl (o2 rfl (AY k0))) fun Y0 g0 v0=>AR (dk b0)<|Ak rfl<|Ar hb0 func175 rfl (.cons (.many (cs:=[.bool q0.fc,j0]) rfl rfl (g0.memA .hd)) .nil) rfl ?_
 cases h
 exact ⟨g0.ag,fun p q=>⟨j0,rfl,g0.kd (Aq k0 v0) q⟩⟩
def dq_p (n:Nat) (a0:Tf) (a1:Tf):Option Int:=
  (dc_p n a0 a1).bind fun b0=>(cG_p n b0).bind fun c0=>some c0
theorem dq_c (n:Nat) {L w} (hL:hl L w) (a0:Tf) {v0_1:Value} (h0_1:Rep.R w L [v0_1] a0.fu) (a1:Tf) {v1_1:Value} (h1_1:Rep.R w L [v1_1] a1.fu)  {r:Int} (h:dq_p n a0 a1 = some r) :
 Cl 149 #[.agg #[.bool a0.fc,v0_1],.agg #[.bool a1.fc,v1_1]] w (ae w fun _ u=>u = vI r):=by
 unfold dq_p at h
 refine AF func149 rfl rfl rfl fun _ cs0 hb0=>Ae<|RG.bx (AC w) rfl rfl fun B0 t0 d0 v0=>RG.bx d0 rfl rfl fun C0 u0 b0 x0=>Af rfl<|Aa<|Ae<|Ab (AK rfl (b0.memA .t1))<|Ab (AK rfl (b0.memA .hd))<|bk h fun q0 k0 h=>jE (bd 175) rfl (e2 rfl rfl) (fun p q=>dc_c n (b0.hL hL q) a0 (b0.km h0_1 q) a1 (b0.km h1_1 q) k0) rfl fun D0 A0 g0 ⟨z0,hu_,j0⟩=>?_
 subst hu_
 obtain ⟨c0,y0⟩:=b0.agr g0
 refine bk h fun s0 p0 h=>Bk (vI s0) (bd 171) rfl (e1 rfl) (fun p q=>cG_c n (c0.hL0 hL q) q0 (c0.kd j0 q) p0) rfl<|Af rfl<|Aa<|Ak rfl<|AQ hb0 func149 rfl rfl ?_
 cases h
 exact c0.gv
def dB_p (n:Nat) (a0:Int):Option Tf:=
  (dn_p n a0).bind fun b0=>(cd_p n b0).bind fun c0=>some c0
theorem dB_c (n:Nat) {L w} (hL:hl L w) {a0:Int}  {r:Tf} (h:dB_p n a0 = some r) :
 Cl 170 #[vI a0] w (ae w fun w' u=>∃ v0_1:Value,u = .agg #[.bool r.fc,v0_1]/\Rep.R w' L [v0_1] r.fu):=by
 unfold dB_p at h
 refine AF func170 rfl rfl rfl fun _ cs0 hb0=>Ae<|RG.nl [.bool false,vN] (AC w) fun A0 v0 b0 x0=>Aa<|Ae<|Ac rfl<|bk h fun j0 t0 h=>Bk (.agg ((ak j0)).toArray) (bd 88) rfl (e1 rfl) (fun p q=>dn_c n (b0.hL0 hL q)  t0) rfl<|bk h fun k0 u0 h=>jE (bd 126) rfl (e1 rfl) (fun p q=>cd_c n (b0.hL hL q) j0 u0) rfl fun B0 z0 s0 ⟨d0,hu_,g0⟩=>?_
 subst hu_
 obtain ⟨p0,y0⟩:=b0.agr s0
 refine AX [.bool k0.fc,d0] p0 .hd (o2 rfl (AY g0)) fun C0 c0 q0=>Aa<|Ak rfl<|Ar hb0 func170 rfl (.cons (.many (cs:=[.bool k0.fc,d0]) rfl rfl (c0.memA .hd)) .nil) rfl ?_
 cases h
 exact ⟨c0.ag,fun p q=>⟨d0,rfl,c0.kd (Aq g0 q0) q⟩⟩
def dw_p (n:Nat) (a0:Tb):Option Int:=
  (dB_p n (1:Int)).bind fun c0=>(bN_p n a0).bind fun b0=>(cG_p n b0.fy).bind fun d0=>(if d0 <= 0 then some (20:Int) else (aN_p n b0.fG b0.fy).bind fun g0=>(dq_p n g0 c0).bind fun j0=>(if j0 = 0 then some (0:Int) else some (20:Int)))
theorem dw_c (n:Nat) {L w} (hL:hl L w) (a0:Tb)  {r:Int} (h:dw_p n a0 = some r) :
 Cl 137 #[.agg ((ac a0)).toArray] w (ae w fun _ u=>u = vI r):=by
 unfold dw_p at h
 refine AF func137 rfl rfl rfl fun _ cs0 hb0=>Ae<|RG.bx (AC w) rfl rfl fun y1 g1 t0 p1=>Af rfl<|Aa<|Ae<|bk h fun B0 W0 h=>jE (bd 170) rfl (e1 rfl) (fun p q=>dB_c n (t0.hL hL q)  W0) rfl fun z1 u1 Q0 ⟨c1,hu_,x0⟩=>?_
 subst hu_
 obtain ⟨G0,q1⟩:=t0.agr Q0
 refine RG.nl [.bool false,vN] G0 fun A1 j1 H0 u0=>AX [.bool B0.fc,c1] H0 .hd (o2 rfl (AY (Aq x0 u0))) fun B1 p0 K0=>Aa<|Ae<|Ab (AK rfl (p0.memA .t1))<|bk h fun g0 X0 h=>jE (bd 100) rfl (e1 rfl) (fun p q=>bN_c n (p0.hL hL q) a0 X0) rfl fun C1 v1 R0 ⟨A0,s0,hu_,y0,z0⟩=>?_
 subst hu_
 obtain ⟨I0,M0⟩:=p0.agr R0
 refine RG.nl [.bool false,vN,.bool false,vN] I0 fun D1 k1 J0 k0=>AX [.bool g0.fG.fc,A0,.bool g0.fy.fc,s0] J0 .hd (o4 rfl (AY (Aq y0 k0)) rfl (AY (Aq z0 k0))) fun E1 d0 q0=>Aa<|Ai<|Ai<|du 14 fun b0 c0=>Rv 0 b0 rfl c0 (fun _=>Be 2 rfl)<|Rx 1 16380 b0 rfl c0 (Bo (cs:=[.bool g0.fy.fc,s0]) rfl rfl (ai (d0.memA .hd) 2 2))<|bk h fun C0 Y0 h=>?_
 have v0:=Aq z0 (Tt k0 q0)
 refine RD.cq 2 7 16376 (vI C0) b0 rfl c0 (bd 171) rfl (e1 rfl) (fun p q=>cG_c n (d0.hL0 hL q) g0.fy (d0.kd v0 q) Y0) rfl<|Rv 3 b0 rfl c0 (fun _=>FV.leq (i:=C0) (j:=0) rfl rfl)<|Rv 4 b0 rfl c0 (fun _=>Ah rfl)<|RD.ifd (s:=12) rfl h (fun E0 h=>?_) (fun E0 h=>?_)
 refine Bz 8191 1 [(5,13),(6,14),(7,15),(8,16),(9,17),(10,18),(11,19),(12,20)] (F:=[(12,true)]) (U:=[]) b0 c0 (.cons rfl .nil) .nil ?_
 dsimp only [aP,List.map]
 refine Rv 13 b0 rfl c0 (fun _=>BP rfl rfl)<|AR (dk b0)<|AZ rfl<|Ae<|Af rfl<|Aa<|Ak rfl<|AQ hb0 func137 rfl rfl ?_
 cases h
 exact d0.gv
 refine RD.vP 5 63 b0 rfl c0 (.yes rfl rfl) (fun _=>Be 0 rfl) rfl<|RD.val (i:=6) (m' :=127) (W:=14848) (tk b0) rfl c0 (.yes rfl rfl) (Bo (cs:=[.bool g0.fG.fc,A0]) rfl rfl (ai (d0.memA .hd) 0 2)) rfl<|RD.vP 7 255 b0 rfl c0 (.yes rfl rfl) (fun _=>Be 2 rfl) rfl<|RD.val (i:=8) (m' :=511) (W:=14848) (tk b0) rfl c0 (.yes rfl rfl) (Bo (cs:=[.bool g0.fy.fc,s0]) rfl rfl (ai (d0.memA .hd) 2 2)) rfl<|RD.val (i:=10) (m' :=1535) (W:=14336) (tk b0) rfl c0 (.yes rfl rfl) (AK rfl (d0.memA .t1)) rfl<|bk h fun d1 Z0 h=>Bu 9 2047 b0 rfl (.yes rfl rfl) (bd 139) rfl (e2 rfl rfl) (fun p q=>aN_c n (d0.hL hL q) g0.fG (Av (Aq y0 (Tt k0 q0)) q) g0.fy (Av v0 q) Z0) rfl fun F1 x1 U0 ⟨s1,hu_,V0⟩=>?_
 subst hu_
 obtain ⟨j0,P0⟩:=d0.agr U0
 refine bk h fun D0 b1 h=>RD.callq (i:=11) (m' :=4095) (W:=12288) (tk b0) rfl c0 (v:=vI D0) (fst:=[]) (cap:=[]) (.yes rfl rfl) (bd 149) rfl (e2 rfl rfl) (fun p q=>dq_c n (j0.hL0 hL q) d1 (j0.kd V0 q) B0 (j0.kd (Aq x0 (Tt u0 (Tt K0 (Tt M0 (Tt k0 (Tt q0 P0)))))) q) b1) rfl<|RD.vP 12 8191 b0 rfl c0 (.yes rfl rfl) (fun _=>FV.neq (i:=D0) (j:=0) rfl rfl) rfl<|Rv 13 b0 rfl c0 (fun _=>Bc rfl rfl)<|AR (dk b0)<|MX.ifn rfl h (fun F0 h=>?_) (fun F0 h=>?_)
 refine Ap<|Ae<|Af rfl<|Aa<|Ak rfl<|AQ hb0 func137 rfl rfl ?_
 cases h
 exact j0.gv
 refine Ae<|Af rfl<|Aa<|Ak rfl<|AQ hb0 func137 rfl rfl ?_
 cases h
 exact j0.gv
def dj_p (n:Nat) (a0:Tb):Option Bool:=
  (dw_p n a0).bind fun b0=>some (decide (b0 = 0))
theorem dj_c (n:Nat) {L w} (hL:hl L w) (a0:Tb)  {r:Bool} (h:dj_p n a0 = some r) :
 Cl 136 #[.agg ((ac a0)).toArray] w (ae w fun _ u=>u = .bool r):=by
 unfold dj_p at h
 refine AF func136 rfl rfl rfl fun _ cs0 hb0=>Ae<|RG.bx (AC w) rfl rfl fun k0 g0 b0 j0=>Af rfl<|Aa<|Ae<|Ab (AK rfl (b0.memA .hd))<|bk h fun c0 d0 h=>Bk (vI c0) (bd 137) rfl (e1 rfl) (fun p q=>dw_c n (b0.hL0 hL q) a0 d0) rfl<|Ab (FV.eql (i:=c0) (j:=0) rfl rfl)<|Af rfl<|Aa<|Ak rfl<|AQ hb0 func136 rfl rfl ?_
 cases h
 exact b0.gv
def bK_l1 (n:Nat) (a0:List Tb) (c0:Nat -> Option (Bool ⊕ Unit)):Nat -> Option (Bool ⊕ Unit)
  | b0=>(if b0 < a0.length then (a0[b0]?).bind fun d0=>(dj_p n d0).bind fun g0=>(if g0 = true then c0 (b0 + 1) else some (.inl false)) else some (.inr ()))
def bK_p (n:Nat) (a0:List Tb):Option Bool:=
  thn (ah (bK_l1 n a0) n 0) (fun _=>some true)
theorem bK_c (n:Nat) {L w} (hL:hl L w) {a0:List Tb} {v0_0:Value} (h0_0:Rep.R w L [v0_0] a0)  {r:Bool} (h:bK_p n a0 = some r) :
 Cl 99 #[v0_0] w (ae w fun _ u=>u = .bool r):=by
 unfold bK_p at h
 refine AF func99 rfl rfl rfl fun _ cs0 hb0=>Ae<|Af rfl<|Aa<|Ae<|Af rfl<|Aa<|Ae<|Ac rfl<|Ac rfl<|BH (fst:=[]) (cap:=[]) (vs:=[.func (.func 136) #[] #[],v0_0]) .plain (bd 138) func138 rfl rfl rfl rfl (e2 rfl rfl) rfl fun cs2 hb1 hp3=>Ae<|Af rfl<|Aa<|Ai<|Ae<|Ac rfl ?_
 have hl4:a0.length <= 281474976710656:=AS h0_0
 refine Ab (AW (xs:=a0) underlying60 rfl h0_0)<|Ac rfl<|Aa<|Au<|tn h fun P0 C0 g0=>BT (α:=Nat) (fun b0=>[(0,.func (.func 136) #[] #[]),(7,v0_0),(8,vI ((a0.length:Nat):Int)),(9,vI ((b0:Nat):Int))]) (fun b0=>[]) (fun b0=>b0) 0 C0 (AC w) ?_
 rintro I0 b0 U0 q0 d0 u0 h
 unfold bK_l1 at h
 try dsimp only at h
 refine Ae<|Ab (Bj (i:=b0) (j:=a0.length) rfl rfl)<|Aa<|Ai<|AO rfl h (fun k0 h=>?_) (fun k0 h=>?_)
 refine Ap<|Ai<|Au<|Ae<|bk h fun j0 E0 h=>?_
 obtain ⟨H0,K0,z0,A0,M0,D0,B0⟩:=Bg (AM h0_0 d0) E0
 obtain rfl:=kI D0
 refine Ab (Bi 16 b0 rfl z0 rfl rfl A0)<|Ab (AK rfl B0)<|RG.nl zL d0 fun Q0 J0 s0 v0=>AX (ac j0) s0 .hd (aq rfl) fun R0 c0 x0=>Aa<|Ae<|Ac rfl<|Ab (AK rfl (c0.memA .hd))<|bk h fun G0 F0 h=>Bk (.bool G0) (bd 136) rfl (e1 rfl) (fun p q=>dj_c n (c0.hL0 hL q) j0 F0) rfl<|Ab (Bp rfl)<|Aa<|BU rfl h (fun p0 h=>?_) (fun p0 h=>?_)
 refine Ap<|Aw<|Am<|Ab (Bf (i:=b0) (j:=1) rfl rfl (by omega))<|Ac rfl<|Aa ?_
 obtain ⟨t0,y0⟩:=AH c0 .done
 exact q0 (b0 + 1) t0 (Tt u0 (Tt v0 (Tt x0 y0))) h
 refine Ae<|Af rfl<|Aa ?_
 have h:=ap h g0
 refine Ak rfl<|Ar (u:=.bool false) hb1 func138 rfl (.cons (.tmp rfl) .nil) rfl<|Af rfl<|Aa<|Ak rfl<|AQ hb0 func99 rfl rfl ?_
 cases h
 exact c0.gv
 refine AV rfl ?_
 have h:=aA h g0
 try dsimp only at h
 refine Ae<|Af rfl<|Aa<|Ak rfl<|Ar (u:=.bool true) hb1 func138 rfl (.cons (.tmp rfl) .nil) rfl<|Af rfl<|Aa<|Ak rfl<|AQ hb0 func99 rfl rfl ?_
 cases h
 exact d0.gv
def dh_p (_n:Nat) (a0:UInt64) (a1:UInt64):Option (UInt64 × UInt64):=
  (some (((shrU a0 32) * (a1 &&& (4294967295:UInt64))) + (shrU ((a0 &&& (4294967295:UInt64)) * (a1 &&& (4294967295:UInt64))) 32))).bind fun u1=>(some (shrU ((u1 &&& (4294967295:UInt64)) + ((a0 &&& (4294967295:UInt64)) * (shrU a1 32))) 32)).bind fun u2=>some ((((shrU a0 32) * (shrU a1 32)) + (shrU u1 32)) + u2,a0 * a1)
theorem dh_c (n:Nat) {L w} (_hL:hl L w) (a0:UInt64) (a1:UInt64)  {r:UInt64 × UInt64} (h:dh_p n a0 a1 = some r) :
 Cl 122 #[vU a0,vU a1] w (ae w fun _ u=>u = .tuple #[vU r.1,vU r.2]):=by
 unfold dh_p at h
 have hS0:=AC w
 refine AF func122 rfl rfl rfl fun _ cs0 hb0=>Ae<|Af rfl<|Af rfl<|Aa<|Ae<|Ac rfl<|Ab (FV.andU (a:=a0) (b:=(4294967295:UInt64)) rfl rfl)<|Af rfl<|Aa<|Ae<|Ac rfl<|Ab (FV.shrU (a:=a0) (j:=32) rfl rfl)<|Af rfl<|Aa<|Ae<|Ac rfl<|Ab (FV.andU (a:=a1) (b:=(4294967295:UInt64)) rfl rfl)<|Af rfl<|Aa<|Ae<|Ac rfl<|Ab (FV.shrU (a:=a1) (j:=32) rfl rfl)<|Af rfl<|Aa<|Ae<|Ac rfl<|Ac rfl<|Ab (FV.mulU (a:=a0 &&& (4294967295:UInt64)) (b:=a1 &&& (4294967295:UInt64)) rfl rfl)<|Af rfl<|Aa<|Ae<|Ac rfl<|Ac rfl<|Ab (FV.mulU (a:=shrU a0 32) (b:=a1 &&& (4294967295:UInt64)) rfl rfl)<|Ac rfl<|Ab (FV.shrU (a:=(a0 &&& (4294967295:UInt64)) * (a1 &&& (4294967295:UInt64))) (j:=32) rfl rfl)<|bk h fun u1 hu1 h=>Ab (FV.as (FV.addU (a:=(shrU a0 32) * (a1 &&& (4294967295:UInt64))) (b:=shrU ((a0 &&& (4294967295:UInt64)) * (a1 &&& (4294967295:UInt64))) 32) rfl rfl) (congrArg (fun z:UInt64=>Value.int .u64 (z.toNat:Int)) (Option.some.inj hu1)))<|Af rfl<|Aa<|Ae<|Ac rfl<|Ab (FV.andU (a:=u1) (b:=(4294967295:UInt64)) rfl rfl)<|Af rfl<|Aa<|Ae<|Ac rfl<|Ab (FV.shrU (a:=u1) (j:=32) rfl rfl)<|Af rfl<|Aa<|Ae<|Ac rfl<|Ac rfl<|Ac rfl ?_
 refine Ab (FV.mulU (a:=a0 &&& (4294967295:UInt64)) (b:=shrU a1 32) rfl rfl)<|Ab (FV.addU (a:=u1 &&& (4294967295:UInt64)) (b:=(a0 &&& (4294967295:UInt64)) * (shrU a1 32)) rfl rfl)<|Af rfl<|Aa<|Ae<|Ac rfl<|Ac rfl<|Ab (FV.mulU (a:=shrU a0 32) (b:=shrU a1 32) rfl rfl)<|Ac rfl<|Ab (FV.addU (a:=(shrU a0 32) * (shrU a1 32)) (b:=shrU u1 32) rfl rfl)<|Ac rfl<|bk h fun u2 hu2 h=>Ab (FV.as (FV.shrU (a:=(u1 &&& (4294967295:UInt64)) + ((a0 &&& (4294967295:UInt64)) * (shrU a1 32))) (j:=32) rfl rfl) (congrArg (fun z:UInt64=>Value.int .u64 (z.toNat:Int)) (Option.some.inj hu2)))<|Ab (FV.addU (a:=((shrU a0 32) * (shrU a1 32)) + (shrU u1 32)) (b:=u2) rfl rfl)<|Af rfl<|Aa<|Ae<|Ac rfl<|Ac rfl<|Ab (FV.mulU (a:=a0) (b:=a1) rfl rfl)<|Af rfl<|Aa<|Ak rfl<|Ar hb0 func122 rfl (.cons (.tmp rfl) (.cons (.tmp rfl) .nil)) rfl ?_
 cases h
 exact hS0.gv
def bh_l1 (n:Nat) (a1:List UInt64) (s0:UInt64) (d0:Nat) (q0:UInt64 × Nat × (List UInt64) -> Option ((List UInt64) × UInt64)):UInt64 × Nat × (List UInt64) -> Option ((List UInt64) × UInt64)
  | (g0,b0,c0)=>(if b0 < a1.length then (a1[b0]?).bind fun t0=>(dh_p n s0 t0).bind fun j0=>(c0[d0 + b0]?).bind fun u0=>(add64 u0 j0.2 (0:UInt64)).bind fun k0=>(add64 k0.1 g0 (0:UInt64)).bind fun p0=>(put c0 ((d0 + b0:Nat):Int) p0.1).bind fun v0=>q0 ((j0.1 + k0.2) + p0.2,b0 + 1,v0) else some (c0,g0))
def bh_l2 (n:Nat) (a0:List UInt64) (a1:List UInt64) (g0:Nat × (List UInt64) -> Option (List UInt64)):Nat × (List UInt64) -> Option (List UInt64)
  | (b0,c0)=>(if b0 < a0.length then (a0[b0]?).bind fun k0=>Option.bind (ah (bh_l1 n a1 k0 b0) n (0,0,c0)) (fun (d0,j0)=>(d0[b0 + a1.length]?).bind fun _x490=>(put d0 ((b0 + a1.length:Nat):Int) j0).bind fun p0=>g0 (b0 + 1,p0)) else some c0)
def bh_p (n:Nat) (a0:List UInt64) (a1:List UInt64):Option (List UInt64):=
  (mk ((a0.length + a1.length:Nat):Int) (0:UInt64)).bind fun b0=>Option.bind (ah (bh_l2 n a0 a1) n (0,b0)) (fun c0=>some c0)
theorem bh_c (n:Nat) {L w} (hL:hl L w) {a0:List UInt64} {v0_0:Value} (h0_0:Rep.R w L [v0_0] a0) {a1:List UInt64} {v1_0:Value} (h1_0:Rep.R w L [v1_0] a1)  {r:List UInt64} (h:bh_p n a0 a1 = some r) :
 Cl 143 #[v0_0,v1_0] w (ae w fun w' u=>∃ v0_0:Value,u = v0_0/\Rep.R w' L [v0_0] r):=by
 unfold bh_p at h
 refine AF func143 rfl rfl rfl fun _ cs0 hb0=>Ae<|Af rfl<|Aa<|Ae<|Ac rfl ?_
 have hl1:a0.length <= 281474976710656:=AS h0_0
 refine Ab (AW (xs:=a0) underlying75 rfl h0_0)<|Ac rfl ?_
 have hl2:a1.length <= 281474976710656:=AS h1_0
 refine Ab (AW (xs:=a1) underlying75 rfl h1_0)<|Ab (Bf (i:=a0.length) (j:=a1.length) rfl rfl (by omega))<|bk h fun R0 J0 h=>Ao .plain rfl (Does.mk (α:=UInt64) J0 (AC w) cT rfl) fun Q2 j0 z0 I2=>Af rfl<|Aa<|Ai<|Ae<|Ac rfl<|Ab (AW (xs:=a0) underlying75 rfl (AM h0_0 z0))<|Ac rfl<|Aa<|Au ?_
 obtain ⟨M2,U1,I1⟩:=ao h
 refine MX.lf (α:=Nat × (List UInt64) × (List Value)) (fun ⟨b0,d0,k0⟩=>[(1,v1_0),(5,(.slice (some ⟨j0,0,none⟩) ((a0.length + a1.length:Nat):Int).toNat ((a0.length + a1.length:Nat):Int).toNat)),(22,v0_0),(23,vI ((a0.length:Nat):Int)),(24,vI ((b0:Nat):Int))]) (fun ⟨b0,d0,k0⟩=>[rr w 28 UInt64 (.slice (some ⟨j0,0,none⟩) ((a0.length + a1.length:Nat):Int).toNat ((a0.length + a1.length:Nat):Int).toNat) d0.length k0]) (fun ⟨b0,d0,k0⟩ K0=>Cells K0 (bl [rr w 28 UInt64 (.slice (some ⟨j0,0,none⟩) ((a0.length + a1.length:Nat):Int).toNat ((a0.length + a1.length:Nat):Int).toNat) d0.length k0] ++ L) k0 d0) (fun ⟨b0,d0,k0⟩=>(b0,d0)) (0,R0,(List.replicate ((a0.length + a1.length:Nat):Int).toNat [vW 0]).flatten) U1 z0 (AB (cs:=(List.replicate ((a0.length + a1.length:Nat):Int).toNat [vW 0]).flatten) (xs:=R0) z0 L (Cells.mk J0 rfl)) ?_
 rintro A2 ⟨b0,d0,k0⟩ K0 q1 t0 x1 F0 h
 unfold bh_l2 at h
 try dsimp only at h
 refine Ae<|Ab (Bj (i:=b0) (j:=a0.length) rfl rfl)<|Aa<|Ai<|AO rfl h (fun Z0 h=>?_) (fun Z0 h=>?_)
 refine Ap<|Ai<|Au<|Ae<|Ac rfl<|bk h fun D0 c2 h=>?_
 obtain ⟨y2,C2,C1,K1,c1,W1,P1⟩:=Bg (AM h0_0 t0) c2
 have D1:c1 = [vU D0]:=W1; subst D1
 refine Ab (Bi 1 b0 rfl C1 rfl rfl K1)<|AL rfl (P1 0 _ rfl)<|Af rfl<|Af rfl<|Aa<|Ae<|Af rfl<|Aa<|Ai<|Ae<|Ac rfl<|Ab (AW (xs:=a1) underlying75 rfl (AM h1_0 t0))<|Ac rfl<|Aa<|Au ?_
 obtain ⟨P2,V1,J1⟩:=ao h
 refine MX.lf (α:=UInt64 × Nat × (List UInt64) × (List Value)) (fun ⟨s0,c0,p0,q0⟩=>[(1,v1_0),(5,(.slice (some ⟨j0,0,none⟩) ((a0.length + a1.length:Nat):Int).toNat ((a0.length + a1.length:Nat):Int).toNat)),(22,v0_0),(23,vI ((a0.length:Nat):Int)),(24,vI ((b0:Nat):Int)),(6,vI ((b0:Nat):Int)),(7,vU D0),(8,vU s0),(29,v1_0),(30,vI ((a1.length:Nat):Int)),(31,vI ((c0:Nat):Int))]) (fun ⟨s0,c0,p0,q0⟩=>[rr w 28 UInt64 (.slice (some ⟨j0,0,none⟩) ((a0.length + a1.length:Nat):Int).toNat ((a0.length + a1.length:Nat):Int).toNat) p0.length q0]) (fun ⟨s0,c0,p0,q0⟩ M0=>Cells M0 (bl [rr w 28 UInt64 (.slice (some ⟨j0,0,none⟩) ((a0.length + a1.length:Nat):Int).toNat ((a0.length + a1.length:Nat):Int).toNat) p0.length q0] ++ L) q0 p0) (fun ⟨s0,c0,p0,q0⟩=>(s0,c0,p0)) (0,0,d0,k0) V1 t0 F0 ?_
 rintro B2 ⟨s0,c0,p0,q0⟩ M0 s1 g0 E0 v0 h
 unfold bh_l1 at h
 try dsimp only at h
 refine Ae<|Ab (Bj (i:=c0) (j:=a1.length) rfl rfl)<|Aa<|Ai<|AO rfl h (fun b1 h=>?_) (fun b1 h=>?_)
 refine Ap<|Ai<|Au<|Ae<|Ac rfl<|bk h fun P0 d2 h=>?_
 obtain ⟨z2,D2,E1,M1,d1,X1,Q1⟩:=Bg (AM h1_0 g0) d2
 have F1:d1 = [vU P0]:=X1; subst F1
 refine Ab (Bi 1 c0 rfl E1 rfl rfl M1)<|AL rfl (Q1 0 _ rfl)<|Af rfl<|Af rfl<|Aa<|Ae<|Ac rfl<|Ac rfl<|bk h fun u0 q2 h=>Bk (.tuple #[vU u0.1,vU u0.2]) (bd 122) rfl (e2 rfl rfl) (fun p q=>dh_c n (g0.hL0 hL q) D0 P0 q2) rfl<|Ac rfl<|Ab (Aj rfl rfl)<|Ab (Aj rfl rfl)<|Af rfl<|Af rfl<|Aa<|Ae<|Ac rfl<|Ac rfl<|Ac rfl<|Ab (Bf (i:=b0) (j:=c0) rfl rfl (by omega))<|bk h fun Q0 g2 h=>?_
 obtain ⟨V0,E2,x0,C0,g1,Y1,R1⟩:=St.nth (α:=UInt64) g0 .hd v0 g2
 obtain ⟨X0,F2,G0⟩:=BL (α:=UInt64) g0 .hd C0
 obtain rfl:V0 = ⟨X0,0,none⟩:=by rw [G0] at x0; cases x0; rfl
 have G1:g1 = [vU Q0]:=Y1; subst G1
 refine Ab (Bi 1 (b0 + c0) rfl x0 rfl rfl C0)<|AL rfl (R1 0 _ rfl)<|Ac rfl<|bk h fun y0 s2 h=>Ab (FV.add64 (a:=Q0) (b:=u0.2) (c:=(0:UInt64)) func173 rfl rfl rfl rfl rfl rfl rfl s2)<|Ac rfl<|Ab (Aj rfl rfl)<|Ab (Aj rfl rfl)<|Af rfl<|Af rfl<|Aa<|Ae<|Ac rfl<|Ac rfl<|bk h fun U0 t2 h=>Ab (FV.add64 (a:=y0.1) (b:=s0) (c:=(0:UInt64)) func173 rfl rfl rfl rfl rfl rfl rfl t2)<|Ac rfl<|Ab (Aj rfl rfl)<|Ab (Aj rfl rfl)<|Af rfl<|Af rfl<|Aa<|Am<|Ac rfl<|Ac rfl<|Ac rfl<|Ab (Bf (i:=b0) (j:=c0) rfl rfl (by omega))<|Ac rfl<|Ac rfl<|Ac rfl<|Ab (FV.addU (a:=u0.1) (b:=y0.2) rfl rfl)<|Ac rfl<|Ab (FV.addU (a:=u0.1 + y0.2) (b:=U0.2) rfl rfl)<|Ab (Bi 1 (b0 + c0) rfl x0 rfl rfl C0)<|bk h fun v2 k2 h=>RG.acts' .plain (Acts.set (α:=UInt64) (i:=b0 + c0) k2 g0 G0 (fun _=>.hd) v0 rfl rfl rfl rfl rfl rfl) fun R2 ⟨j1,u1,y1,A1⟩=>Af rfl<|Aa<|Aw<|Am<|Ab (Bf (i:=c0) (j:=1) rfl rfl (by omega))<|Ac rfl<|Aa<|s1 ((u0.1 + y0.2) + U0.2,c0 + 1,v2,j1) u1 (Tt E0 y1) A1 h
 refine AV rfl ?_
 have h:=J1 _ h
 try dsimp only at h
 refine Am<|Ac rfl<|Ac rfl<|Ac rfl<|Ab (AW (xs:=a1) underlying75 rfl (AM h1_0 g0))<|Ab (Bf (i:=b0) (j:=a1.length) rfl rfl (by omega))<|Ac rfl<|bk h fun u2 j2 h=>?_
 obtain ⟨W0,G2,B0,I0,k1,Z1,K2⟩:=St.nth (α:=UInt64) g0 .hd v0 j2
 obtain ⟨Y0,H2,H0⟩:=BL (α:=UInt64) g0 .hd I0
 obtain rfl:W0 = ⟨Y0,0,none⟩:=by rw [H0] at B0; cases B0; rfl
 have H1:k1 = [vU u2]:=Z1; subst H1
 refine Ab (Bi 1 (b0 + a1.length) rfl B0 rfl rfl I0)<|bk h fun x2 p2 h=>RG.acts' .plain (Acts.set (α:=UInt64) (i:=b0 + a1.length) p2 g0 H0 (fun _=>.hd) v0 rfl rfl rfl rfl rfl rfl) fun U2 ⟨p1,v1,z1,B1⟩=>Aa<|Aw<|Am<|Ab (Bf (i:=b0) (j:=1) rfl rfl (by omega))<|Ac rfl<|Aa<|q1 (b0 + 1,x2,p1) v1 (Tt x1 (Tt E0 z1)) B1 h
 refine AV rfl ?_
 have h:=I1 _ h
 try dsimp only at h
 refine Ae<|Ac rfl<|Af rfl<|Aa<|Ak rfl ?_
 have A0:=Bq t0 .hd
 have J2:=Br t0 .hd
 have b2:=Bs (α:=UInt64) (v:=(.slice (some ⟨j0,0,none⟩) ((a0.length + a1.length:Nat):Int).toNat ((a0.length + a1.length:Nat):Int).toNat)) (xs:=d0) A0 L (Ba (α:=UInt64) t0 .hd F0 hL)
 refine AQ hb0 func143 rfl rfl ?_
 cases h
 exact ⟨A0.ag,fun p q=>⟨(.slice (some ⟨j0,0,none⟩) ((a0.length + a1.length:Nat):Int).toNat ((a0.length + a1.length:Nat):Int).toNat),rfl,A0.kd b2 q⟩⟩
def bb_p (n:Nat) (a0:Tf) (a1:Tf):Option Tf:=
  (bh_p n a0.fu a1.fu).bind fun b0=>(ax_p n (!(a0.fc == a1.fc)) b0).bind fun c0=>some c0
theorem bb_c (n:Nat) {L w} (hL:hl L w) (a0:Tf) {v0_1:Value} (h0_1:Rep.R w L [v0_1] a0.fu) (a1:Tf) {v1_1:Value} (h1_1:Rep.R w L [v1_1] a1.fu)  {r:Tf} (h:bb_p n a0 a1 = some r) :
 Cl 102 #[.agg #[.bool a0.fc,v0_1],.agg #[.bool a1.fc,v1_1]] w (ae w fun w' u=>∃ v0_1:Value,u = .agg #[.bool r.fc,v0_1]/\Rep.R w' L [v0_1] r.fu):=by
 unfold bb_p at h
 refine AF func102 rfl rfl rfl fun _ cs0 hb0=>Ae<|RG.bx (AC w) rfl rfl fun Q0 C0 s0 F0=>RG.bx s0 rfl rfl fun R0 D0 t0 G0=>RG.nl [.bool false,vN] t0 fun U0 E0 d0 H0=>Aa<|Ai<|du 11 fun b0 c0=>Rv 0 b0 rfl c0 (fun _=>Be 0 rfl)<|Rx 1 3088 b0 rfl c0 (AN rfl ((d0.memA .t2) 0 _ rfl))<|Rv 2 b0 rfl c0 (fun _=>Be 0 rfl)<|Rx 3 3088 b0 rfl c0 (AN rfl ((d0.memA .t1) 0 _ rfl))<|Rv 4 b0 rfl c0 (fun _=>FV.neqB (a:=a0.fc) (b:=a1.fc) underlying4 rfl rfl)<|Rv 5 b0 rfl c0 (fun _=>Be 1 rfl)<|Rx 6 3584 b0 rfl c0 (AN rfl ((d0.memA .t2) 1 _ rfl))<|Rv 7 b0 rfl c0 (fun _=>Be 1 rfl)<|Rx 8 3584 b0 rfl c0 (AN rfl ((d0.memA .t1) 1 _ rfl))<|bk h fun Y0 A0 h=>Bu 9 1023 b0 rfl .plain (bd 143) rfl (e2 rfl rfl) (fun p q=>bh_c n (d0.hL hL q) (d0.km h0_1 q) (d0.km h1_1 q) A0) rfl fun V0 M0 x0 ⟨K0,hu_,z0⟩=>?_
 subst hu_
 obtain ⟨k0,I0⟩:=d0.agr x0
 refine bk h fun q0 B0 h=>Bu 10 2047 b0 rfl .plain (bd 142) rfl (e2 rfl rfl) (fun p q=>ax_c n (k0.hL hL q) (Av z0 q) B0) rfl fun W0 P0 y0 ⟨j0,hu_,p0⟩=>?_
 subst hu_
 obtain ⟨u0,J0⟩:=k0.agr y0
 refine BB 11 4095 b0 rfl rfl .plain (AD (news:=[.bool q0.fc,j0]) u0 .hd rfl rfl rfl rfl rfl rfl (o2 rfl (AY p0))) fun X0 g0 v0=>AR (dk b0)<|Ak rfl<|Ar hb0 func102 rfl (.cons (.many (cs:=[.bool q0.fc,j0]) rfl rfl (g0.memA .hd)) .nil) rfl ?_
 cases h
 exact ⟨g0.ag,fun p q=>⟨j0,rfl,g0.kd (Aq p0 v0) q⟩⟩
def cH_p (n:Nat) (a0:Ti) (a1:Ti):Option Ti:=
  (bb_p n a0.fG a1.fG).bind fun b0=>(bb_p n a0.fy a1.fy).bind fun c0=>(ci_p n b0 c0).bind fun d0=>some d0
theorem cH_c (n:Nat) {L w} (hL:hl L w) (a0:Ti) {v0_1:Value} (h0_1:Rep.R w L [v0_1] a0.fG.fu) {v0_3:Value} (h0_3:Rep.R w L [v0_3] a0.fy.fu) (a1:Ti) {v1_1:Value} (h1_1:Rep.R w L [v1_1] a1.fG.fu) {v1_3:Value} (h1_3:Rep.R w L [v1_3] a1.fy.fu)  {r:Ti} (h:cH_p n a0 a1 = some r) :
 Cl 58 #[.agg #[.bool a0.fG.fc,v0_1,.bool a0.fy.fc,v0_3],.agg #[.bool a1.fG.fc,v1_1,.bool a1.fy.fc,v1_3]] w (ae w fun w' u=>∃ v0_1 v0_3:Value,u = .agg #[.bool r.fG.fc,v0_1,.bool r.fy.fc,v0_3]/\Rep.R w' L [v0_1] r.fG.fu/\Rep.R w' L [v0_3] r.fy.fu):=by
 unfold cH_p at h
 refine AF func58 rfl rfl rfl fun _ cs0 hb0=>Ae<|RG.bx (AC w) rfl rfl fun g1 M0 x0 R0=>RG.bx x0 rfl rfl fun j1 P0 y0 U0=>RG.nl [.bool false,vN,.bool false,vN] y0 fun k1 Q0 c0 V0=>Aa<|Ai<|du 11 fun b0 d0=>Rv 0 b0 rfl d0 (fun _=>Be 0 rfl)<|Rx 1 3600 b0 rfl d0 (Bo (cs:=[.bool a0.fG.fc,v0_1]) rfl rfl (ai (c0.memA .t2) 0 2))<|Rv 2 b0 rfl d0 (fun _=>Be 0 rfl)<|Rx 3 3600 b0 rfl d0 (Bo (cs:=[.bool a1.fG.fc,v1_1]) rfl rfl (ai (c0.memA .t1) 0 2))<|Rv 5 b0 rfl d0 (fun _=>Be 2 rfl)<|Rx 6 3584 b0 rfl d0 (Bo (cs:=[.bool a0.fy.fc,v0_3]) rfl rfl (ai (c0.memA .t2) 2 2))<|Rv 7 b0 rfl d0 (fun _=>Be 2 rfl)<|Rx 8 3584 b0 rfl d0 (Bo (cs:=[.bool a1.fy.fc,v1_3]) rfl rfl (ai (c0.memA .t1) 2 2))<|bk h fun J0 G0 h=>Bu 4 511 b0 rfl .plain (bd 102) rfl (e2 rfl rfl) (fun p q=>bb_c n (c0.hL hL q) a0.fG (c0.km h0_1 q) a1.fG (c0.km h1_1 q) G0) rfl fun p1 b1 B0 ⟨Y0,hu_,E0⟩=>?_
 subst hu_
 obtain ⟨g0,W0⟩:=c0.agr B0
 refine bk h fun K0 H0 h=>Bu 9 1023 b0 rfl .plain (bd 102) rfl (e2 rfl rfl) (fun p q=>bb_c n (g0.hL hL q) a0.fy (g0.km h0_3 q) a1.fy (g0.km h1_3 q) H0) rfl fun q1 c1 C0 ⟨Z0,hu_,F0⟩=>?_
 subst hu_
 obtain ⟨s0,A0⟩:=g0.agr C0
 refine bk h fun k0 I0 h=>Bu 10 2047 b0 rfl .plain (bd 101) rfl (e2 rfl rfl) (fun p q=>ci_c n (s0.hL hL q) J0 (Av (Aq E0 A0) q) K0 (Av F0 q) I0) rfl fun s1 d1 D0 ⟨p0,q0,hu_,u0,v0⟩=>?_
 subst hu_
 obtain ⟨z0,X0⟩:=s0.agr D0
 refine BB 11 4095 b0 rfl rfl .plain (AD (news:=[.bool k0.fG.fc,p0,.bool k0.fy.fc,q0]) z0 .hd rfl rfl rfl rfl rfl rfl (o4 rfl (AY u0) rfl (AY v0))) fun u1 j0 t0=>AR (dk b0)<|Ak rfl<|Ar hb0 func58 rfl (.cons (.many (cs:=[.bool k0.fG.fc,p0,.bool k0.fy.fc,q0]) rfl rfl (j0.memA .hd)) .nil) rfl ?_
 cases h
 exact ⟨j0.ag,fun p q=>⟨p0,q0,rfl,j0.kd (Aq u0 t0) q,j0.kd (Aq v0 t0) q⟩⟩
def dC_p (n:Nat) (a0:Tb) (a1:Tb):Option (Tb × Int):=
  (bK_p n ([a0,a1]:List Tb)).bind fun d0=>(if d0 = true then (bN_p n a0).bind fun g0=>(bN_p n a1).bind fun j0=>(cH_p n g0 j0).bind fun k0=>(bT_p n k0 (0:Int)).bind fun c0=>some (c0.1,c0.2) else (bT_p n (⟨(⟨false,([]:List UInt64)⟩:Tf),(⟨false,([]:List UInt64)⟩:Tf)⟩:Ti) (20:Int)).bind fun b0=>some (b0.1,b0.2))
theorem dC_c (n:Nat) {L w} (hL:hl L w) (a0:Tb) (a1:Tb)  {r:Tb × Int} (h:dC_p n a0 a1 = some r) :
 Cl 21 #[.agg ((ac a0)).toArray,.agg ((ac a1)).toArray] w (ae w fun _ u=>u = .tuple #[.agg ((ac r.1)).toArray,vI r.2]):=by
 unfold dC_p at h
 refine AF func21 rfl rfl rfl fun _ cs0 hb0=>Ae<|RG.bx (AC w) rfl rfl fun j2 s1 I0 F1=>RG.bx I0 rfl rfl fun k2 u1 J0 G1=>RG.nl zL J0 fun p2 v1 s0 H1=>Af rfl<|Aa<|Ae<|Ab (AK rfl (s0.memA .t2))<|Ab (AK rfl (s0.memA .t1))<|BH (fst:=[]) (cap:=[]) (vs:=[.agg ((ac a0)).toArray,.agg ((ac a1)).toArray,.func (.func 58) #[] #[]]) .plain (bd 57) func57 rfl rfl rfl rfl (e3 rfl rfl rfl) rfl fun C1 E0 V1=>Ae<|RG.bx s0 rfl rfl fun q2 x1 K0 I1=>RG.bx K0 rfl rfl fun s2 y1 M0 J1=>RG.nl [.bool false,vN,.bool false,vN] M0 fun u2 z1 t0 K1=>Af rfl<|Aa<|Ai<|Ae<|Ab (AK rfl (t0.memA .t2))<|Ab (AK rfl (t0.memA .t1))<|Ao .plain rfl (AJ (α:=Tb) (xs:=([a0,a1]:List Tb)) (vs:=[.agg ((ac a0)).toArray,.agg ((ac a1)).toArray]) (ds' :=(ac a0 ++ ac a1)) rfl t0 im rfl (e2 rfl rfl) (by kernel_rfl) rfl) fun v2 A1 c0 M1=>?_
 refine bk h fun k1 b1 h=>Bk (.bool k1) (bd 99) rfl (e1 rfl) (fun p q=>bK_c n (c0.hL0 hL q) (Av (St.lend (α:=Tb) (L:=L) c0 .hd (AB (cs:=(ac a0 ++ ac a1)) (xs:=(([a0,a1]:List Tb):List Tb)) c0 L (Ax (cs:=(ac a0)) (ds:=(ac a1)) (ct a0.fN a0.fD) (Ax (cs:=(ac a1)) (ds:=[]) (ct a1.fN a1.fD) (AG _ _)))) hL) q) b1) rfl<|Ab (Bp rfl)<|Aa<|BU rfl h (fun H0 h=>?_) (fun H0 h=>?_)
 refine Ap<|Ai<|du 6 fun b0 j0=>Rv 0 b0 rfl j0 (fun _=>Ah rfl)<|Rx 1 244 b0 rfl j0 (AK rfl (c0.memA .t3))<|Rx 3 240 b0 rfl j0 (AK rfl (c0.memA .t2))<|bk h fun p1 c1 h=>Bu 2 15 b0 rfl .plain (bd 100) rfl (e1 rfl) (fun p q=>bN_c n (c0.hL hL q) a0 c1) rfl fun x2 b2 Q0 ⟨W1,X1,hu_,V0,W0⟩=>?_
 subst hu_
 obtain ⟨y0,P1⟩:=c0.agr Q0
 refine bk h fun q1 d1 h=>Bu 4 31 b0 rfl .plain (bd 100) rfl (e1 rfl) (fun p q=>bN_c n (y0.hL hL q) a1 d1) rfl fun y2 c2 R0 ⟨Y1,Z1,hu_,X0,Y0⟩=>?_
 subst hu_
 obtain ⟨z0,C0⟩:=y0.agr R0
 refine bk h fun d0 g1 h=>Bu 5 63 b0 rfl .plain (bd 58) rfl (e2 rfl rfl) (fun p q=>cH_c n (z0.hL hL q) p1 (Av (Aq V0 C0) q) (Av (Aq W0 C0) q) q1 (Av X0 q) (Av Y0 q) g1) rfl fun z2 d2 U0 ⟨u0,v0,hu_,F0,G0⟩=>?_
 subst hu_
 obtain ⟨P0,Q1⟩:=z0.agr U0
 refine BB 6 127 b0 rfl rfl .plain (AD (news:=[.bool d0.fG.fc,u0,.bool d0.fy.fc,v0]) P0 .t1 rfl rfl rfl rfl rfl rfl (o4 rfl (AY F0) rfl (AY G0))) fun A2 g0 D0=>Rv 7 b0 rfl j0 (fun _=>Bm rfl)<|AR (dk b0)<|Ak rfl<|Ar (u:=.tuple #[.agg #[.bool d0.fG.fc,u0,.bool d0.fy.fc,v0],vI 0]) E0 func57 rfl (.cons (.many (cs:=[.bool d0.fG.fc,u0,.bool d0.fy.fc,v0]) rfl rfl (g0.memA .t1)) (.cons (.tmp rfl) .nil)) rfl<|Ab (Aj rfl rfl)<|Ab (Aj rfl rfl)<|bk h fun p0 j1 h=>Bk (.tuple #[.agg ((ac p0.1)).toArray,vI p0.2]) (bd 56) rfl (e2 rfl rfl) (fun p q=>bT_c n (g0.hL0 hL q) d0 (g0.kd (Aq F0 D0) q) (g0.kd (Aq G0 D0) q) j1) rfl<|Ab (Aj rfl rfl)<|Ab (Aj rfl rfl)<|AX (ac p0.1) g0 .t4 (aq rfl) fun B2 A0 R1=>Af rfl<|Aa<|Ak rfl<|Ar hb0 func21 rfl (.cons (.many (cs:=(ac p0.1)) rfl rfl (A0.memA .t4)) (.cons (.tmp rfl) .nil)) rfl ?_
 cases h
 exact A0.gv
 refine Ae<|RG.nl [.bool false,vN,.bool false,vN] c0 fun C2 B1 B0 U1=>Aa<|Ae<|Ab (AK rfl (B0.memA .hd))<|AX [.bool false,vN,.bool false,vN] B0 .t2 (aq rfl) fun D2 q0 D1=>Af rfl<|Aa<|Ak rfl<|Ar (u:=.tuple #[.agg #[.bool false,vN,.bool false,vN],vI 20]) E0 func57 rfl (.cons (.many (cs:=[.bool false,vN,.bool false,vN]) rfl rfl (q0.memA .t2)) (.cons (.tmp rfl) .nil)) rfl<|Ab (Aj rfl rfl)<|Ab (Aj rfl rfl)<|bk h fun k0 Z0 h=>Bk (.tuple #[.agg ((ac k0.1)).toArray,vI k0.2]) (bd 56) rfl (e2 rfl rfl) (fun p q=>bT_c n (q0.hL0 hL q) (⟨(⟨false,([]:List UInt64)⟩:Tf),(⟨false,([]:List UInt64)⟩:Tf)⟩:Ti) (Av (Rep.nilSlice _ _) q) (Av (Rep.nilSlice _ _) q) Z0) rfl<|Ab (Aj rfl rfl)<|Ab (Aj rfl rfl)<|AX (ac k0.1) q0 .t5 (aq rfl) fun g2 x0 E1=>Af rfl<|Aa<|Ak rfl<|Ar hb0 func21 rfl (.cons (.many (cs:=(ac k0.1)) rfl rfl (x0.memA .t5)) (.cons (.tmp rfl) .nil)) rfl ?_
 cases h
 exact x0.gv
def cR_p (n:Nat) (a0:Ti) (a1:Ti):Option Ti:=
  (bb_p n a0.fG a1.fy).bind fun b0=>(bb_p n a1.fG a0.fy).bind fun c0=>(bY_p n b0 c0).bind fun d0=>(bb_p n a0.fy a1.fy).bind fun g0=>(ci_p n d0 g0).bind fun j0=>some j0
theorem cR_c (n:Nat) {L w} (hL:hl L w) (a0:Ti) {v0_1:Value} (h0_1:Rep.R w L [v0_1] a0.fG.fu) {v0_3:Value} (h0_3:Rep.R w L [v0_3] a0.fy.fu) (a1:Ti) {v1_1:Value} (h1_1:Rep.R w L [v1_1] a1.fG.fu) {v1_3:Value} (h1_3:Rep.R w L [v1_3] a1.fy.fu)  {r:Ti} (h:cR_p n a0 a1 = some r) :
 Cl 59 #[.agg #[.bool a0.fG.fc,v0_1,.bool a0.fy.fc,v0_3],.agg #[.bool a1.fG.fc,v1_1,.bool a1.fy.fc,v1_3]] w (ae w fun w' u=>∃ v0_1 v0_3:Value,u = .agg #[.bool r.fG.fc,v0_1,.bool r.fy.fc,v0_3]/\Rep.R w' L [v0_1] r.fG.fu/\Rep.R w' L [v0_3] r.fy.fu):=by
 unfold cR_p at h
 refine AF func59 rfl rfl rfl fun _ cs0 hb0=>Ae<|RG.bx (AC w) rfl rfl fun F1 c1 z0 j1=>RG.bx z0 rfl rfl fun G1 d1 A0 k1=>RG.nl [.bool false,vN,.bool false,vN] A0 fun H1 g1 d0 p1=>Aa<|Ai<|du 17 fun b0 c0=>Rv 0 b0 rfl c0 (fun _=>Be 0 rfl)<|Rx 1 230928 b0 rfl c0 (Bo (cs:=[.bool a0.fG.fc,v0_1]) rfl rfl (ai (d0.memA .t2) 0 2))<|Rv 2 b0 rfl c0 (fun _=>Be 2 rfl)<|Rx 3 230928 b0 rfl c0 (Bo (cs:=[.bool a1.fy.fc,v1_3]) rfl rfl (ai (d0.memA .t1) 2 2))<|Rv 5 b0 rfl c0 (fun _=>Be 0 rfl)<|Rx 6 230912 b0 rfl c0 (Bo (cs:=[.bool a1.fG.fc,v1_1]) rfl rfl (ai (d0.memA .t1) 0 2))<|Rv 7 b0 rfl c0 (fun _=>Be 2 rfl)<|Rx 8 230912 b0 rfl c0 (Bo (cs:=[.bool a0.fy.fc,v0_3]) rfl rfl (ai (d0.memA .t2) 2 2))<|Rv 11 b0 rfl c0 (fun _=>Be 2 rfl)<|Rx 12 229376 b0 rfl c0 (Bo (cs:=[.bool a0.fy.fc,v0_3]) rfl rfl (ai (d0.memA .t2) 2 2))<|Rv 13 b0 rfl c0 (fun _=>Be 2 rfl)<|Rx 14 229376 b0 rfl c0 (Bo (cs:=[.bool a1.fy.fc,v1_3]) rfl rfl (ai (d0.memA .t1) 2 2))<|bk h fun X0 Q0 h=>Bu 4 31231 b0 rfl .plain (bd 102) rfl (e2 rfl rfl) (fun p q=>bb_c n (d0.hL hL q) a0.fG (d0.km h0_1 q) a1.fy (d0.km h1_3 q) Q0) rfl fun I1 A1 E0 ⟨v1,hu_,J0⟩=>?_
 subst hu_
 obtain ⟨g0,q1⟩:=d0.agr E0
 refine bk h fun Y0 R0 h=>Bu 9 31743 b0 rfl .plain (bd 102) rfl (e2 rfl rfl) (fun p q=>bb_c n (g0.hL hL q) a1.fG (g0.km h1_1 q) a0.fy (g0.km h0_3 q) R0) rfl fun J1 B1 F0 ⟨x1,hu_,K0⟩=>?_
 subst hu_
 obtain ⟨t0,C0⟩:=g0.agr F0
 refine bk h fun Z0 U0 h=>Bu 10 32767 b0 rfl .plain (bd 103) rfl (e2 rfl rfl) (fun p q=>bY_c n (t0.hL hL q) X0 (Av (Aq J0 C0) q) Y0 (Av K0 q) U0) rfl fun K1 C1 G0 ⟨y1,hu_,M0⟩=>?_
 subst hu_
 obtain ⟨j0,s1⟩:=t0.agr G0
 refine bk h fun b1 V0 h=>Bu 15 65535 b0 rfl .plain (bd 102) rfl (e2 rfl rfl) (fun p q=>bb_c n (j0.hL hL q) a0.fy (j0.km h0_3 q) a1.fy (j0.km h1_3 q) V0) rfl fun M1 D1 H0 ⟨z1,hu_,P0⟩=>?_
 subst hu_
 obtain ⟨u0,D0⟩:=j0.agr H0
 refine bk h fun p0 W0 h=>Bu 16 131071 b0 rfl .plain (bd 101) rfl (e2 rfl rfl) (fun p q=>ci_c n (u0.hL hL q) Z0 (Av (Aq M0 D0) q) b1 (Av P0 q) W0) rfl fun P1 E1 I0 ⟨q0,s0,hu_,x0,y0⟩=>?_
 subst hu_
 obtain ⟨B0,u1⟩:=u0.agr I0
 refine BB 17 262143 b0 rfl rfl .plain (AD (news:=[.bool p0.fG.fc,q0,.bool p0.fy.fc,s0]) B0 .hd rfl rfl rfl rfl rfl rfl (o4 rfl (AY x0) rfl (AY y0))) fun Q1 k0 v0=>AR (dk b0)<|Ak rfl<|Ar hb0 func59 rfl (.cons (.many (cs:=[.bool p0.fG.fc,q0,.bool p0.fy.fc,s0]) rfl rfl (k0.memA .hd)) .nil) rfl ?_
 cases h
 exact ⟨k0.ag,fun p q=>⟨q0,s0,rfl,k0.kd (Aq x0 v0) q,k0.kd (Aq y0 v0) q⟩⟩
def dD_p (n:Nat) (a0:Tb) (a1:Tb):Option (Tb × Int):=
  (bK_p n ([a0,a1]:List Tb)).bind fun d0=>(if d0 = true then (bN_p n a0).bind fun g0=>(bN_p n a1).bind fun j0=>(cR_p n g0 j0).bind fun k0=>(bT_p n k0 (0:Int)).bind fun c0=>some (c0.1,c0.2) else (bT_p n (⟨(⟨false,([]:List UInt64)⟩:Tf),(⟨false,([]:List UInt64)⟩:Tf)⟩:Ti) (20:Int)).bind fun b0=>some (b0.1,b0.2))
theorem dD_c (n:Nat) {L w} (hL:hl L w) (a0:Tb) (a1:Tb)  {r:Tb × Int} (h:dD_p n a0 a1 = some r) :
 Cl 22 #[.agg ((ac a0)).toArray,.agg ((ac a1)).toArray] w (ae w fun _ u=>u = .tuple #[.agg ((ac r.1)).toArray,vI r.2]):=by
 unfold dD_p at h
 refine AF func22 rfl rfl rfl fun _ cs0 hb0=>Ae<|RG.bx (AC w) rfl rfl fun j2 s1 I0 F1=>RG.bx I0 rfl rfl fun k2 u1 J0 G1=>RG.nl zL J0 fun p2 v1 s0 H1=>Af rfl<|Aa<|Ae<|Ab (AK rfl (s0.memA .t2))<|Ab (AK rfl (s0.memA .t1))<|BH (fst:=[]) (cap:=[]) (vs:=[.agg ((ac a0)).toArray,.agg ((ac a1)).toArray,.func (.func 59) #[] #[]]) .plain (bd 57) func57 rfl rfl rfl rfl (e3 rfl rfl rfl) rfl fun C1 E0 V1=>Ae<|RG.bx s0 rfl rfl fun q2 x1 K0 I1=>RG.bx K0 rfl rfl fun s2 y1 M0 J1=>RG.nl [.bool false,vN,.bool false,vN] M0 fun u2 z1 t0 K1=>Af rfl<|Aa<|Ai<|Ae<|Ab (AK rfl (t0.memA .t2))<|Ab (AK rfl (t0.memA .t1))<|Ao .plain rfl (AJ (α:=Tb) (xs:=([a0,a1]:List Tb)) (vs:=[.agg ((ac a0)).toArray,.agg ((ac a1)).toArray]) (ds' :=(ac a0 ++ ac a1)) rfl t0 im rfl (e2 rfl rfl) (by kernel_rfl) rfl) fun v2 A1 c0 M1=>?_
 refine bk h fun k1 b1 h=>Bk (.bool k1) (bd 99) rfl (e1 rfl) (fun p q=>bK_c n (c0.hL0 hL q) (Av (St.lend (α:=Tb) (L:=L) c0 .hd (AB (cs:=(ac a0 ++ ac a1)) (xs:=(([a0,a1]:List Tb):List Tb)) c0 L (Ax (cs:=(ac a0)) (ds:=(ac a1)) (ct a0.fN a0.fD) (Ax (cs:=(ac a1)) (ds:=[]) (ct a1.fN a1.fD) (AG _ _)))) hL) q) b1) rfl<|Ab (Bp rfl)<|Aa<|BU rfl h (fun H0 h=>?_) (fun H0 h=>?_)
 refine Ap<|Ai<|du 6 fun b0 j0=>Rv 0 b0 rfl j0 (fun _=>Ah rfl)<|Rx 1 244 b0 rfl j0 (AK rfl (c0.memA .t3))<|Rx 3 240 b0 rfl j0 (AK rfl (c0.memA .t2))<|bk h fun p1 c1 h=>Bu 2 15 b0 rfl .plain (bd 100) rfl (e1 rfl) (fun p q=>bN_c n (c0.hL hL q) a0 c1) rfl fun x2 b2 Q0 ⟨W1,X1,hu_,V0,W0⟩=>?_
 subst hu_
 obtain ⟨y0,P1⟩:=c0.agr Q0
 refine bk h fun q1 d1 h=>Bu 4 31 b0 rfl .plain (bd 100) rfl (e1 rfl) (fun p q=>bN_c n (y0.hL hL q) a1 d1) rfl fun y2 c2 R0 ⟨Y1,Z1,hu_,X0,Y0⟩=>?_
 subst hu_
 obtain ⟨z0,C0⟩:=y0.agr R0
 refine bk h fun d0 g1 h=>Bu 5 63 b0 rfl .plain (bd 59) rfl (e2 rfl rfl) (fun p q=>cR_c n (z0.hL hL q) p1 (Av (Aq V0 C0) q) (Av (Aq W0 C0) q) q1 (Av X0 q) (Av Y0 q) g1) rfl fun z2 d2 U0 ⟨u0,v0,hu_,F0,G0⟩=>?_
 subst hu_
 obtain ⟨P0,Q1⟩:=z0.agr U0
 refine BB 6 127 b0 rfl rfl .plain (AD (news:=[.bool d0.fG.fc,u0,.bool d0.fy.fc,v0]) P0 .t1 rfl rfl rfl rfl rfl rfl (o4 rfl (AY F0) rfl (AY G0))) fun A2 g0 D0=>Rv 7 b0 rfl j0 (fun _=>Bm rfl)<|AR (dk b0)<|Ak rfl<|Ar (u:=.tuple #[.agg #[.bool d0.fG.fc,u0,.bool d0.fy.fc,v0],vI 0]) E0 func57 rfl (.cons (.many (cs:=[.bool d0.fG.fc,u0,.bool d0.fy.fc,v0]) rfl rfl (g0.memA .t1)) (.cons (.tmp rfl) .nil)) rfl<|Ab (Aj rfl rfl)<|Ab (Aj rfl rfl)<|bk h fun p0 j1 h=>Bk (.tuple #[.agg ((ac p0.1)).toArray,vI p0.2]) (bd 56) rfl (e2 rfl rfl) (fun p q=>bT_c n (g0.hL0 hL q) d0 (g0.kd (Aq F0 D0) q) (g0.kd (Aq G0 D0) q) j1) rfl<|Ab (Aj rfl rfl)<|Ab (Aj rfl rfl)<|AX (ac p0.1) g0 .t4 (aq rfl) fun B2 A0 R1=>Af rfl<|Aa<|Ak rfl<|Ar hb0 func22 rfl (.cons (.many (cs:=(ac p0.1)) rfl rfl (A0.memA .t4)) (.cons (.tmp rfl) .nil)) rfl ?_
 cases h
 exact A0.gv
 refine Ae<|RG.nl [.bool false,vN,.bool false,vN] c0 fun C2 B1 B0 U1=>Aa<|Ae<|Ab (AK rfl (B0.memA .hd))<|AX [.bool false,vN,.bool false,vN] B0 .t2 (aq rfl) fun D2 q0 D1=>Af rfl<|Aa<|Ak rfl<|Ar (u:=.tuple #[.agg #[.bool false,vN,.bool false,vN],vI 20]) E0 func57 rfl (.cons (.many (cs:=[.bool false,vN,.bool false,vN]) rfl rfl (q0.memA .t2)) (.cons (.tmp rfl) .nil)) rfl<|Ab (Aj rfl rfl)<|Ab (Aj rfl rfl)<|bk h fun k0 Z0 h=>Bk (.tuple #[.agg ((ac k0.1)).toArray,vI k0.2]) (bd 56) rfl (e2 rfl rfl) (fun p q=>bT_c n (q0.hL0 hL q) (⟨(⟨false,([]:List UInt64)⟩:Tf),(⟨false,([]:List UInt64)⟩:Tf)⟩:Ti) (Av (Rep.nilSlice _ _) q) (Av (Rep.nilSlice _ _) q) Z0) rfl<|Ab (Aj rfl rfl)<|Ab (Aj rfl rfl)<|AX (ac k0.1) q0 .t5 (aq rfl) fun g2 x0 E1=>Af rfl<|Aa<|Ak rfl<|Ar hb0 func22 rfl (.cons (.many (cs:=(ac k0.1)) rfl rfl (x0.memA .t5)) (.cons (.tmp rfl) .nil)) rfl ?_
 cases h
 exact x0.gv
def bn_p (_n:Nat) (a0:List Tb) (a1:Int):Option (Except Th (List Tb)):=
  (if a1 = 0 then some (.ok a0) else some (.error (⟨a1⟩:Th)))
theorem bn_c (n:Nat) {L w} (_hL:hl L w) {a0:List Tb} {v0_0:Value} (h0_0:Rep.R w L [v0_0] a0) {a1:Int}  {r:Except Th (List Tb)} (h:bn_p n a0 a1 = some r) :
 Cl 62 #[v0_0,vI a1] w (bj w (fun (y:List Tb) w' u=>∃ v0_0:Value,u = v0_0/\Rep.R w' L [v0_0] y) (fun e=>.iface 176 (.agg #[vI e.fF])) r):=by
 unfold bn_p at h
 have hS0:=AC w
 refine MX.startP func62 rfl rfl rfl fun _ cs0 hb0 hp0=>Ae<|Af rfl<|Aa<|Ai<|Ae<|Ac rfl<|Ab (FV.neq (i:=a1) (j:=0) rfl rfl)<|Aa<|MX.ifn rfl h (fun c1 h=>?_) (fun c1 h=>?_)
 refine Ap<|Ae<|Ac rfl<|Af rfl<|Aa<|Ak rfl<|AQ hb0 func62 rfl rfl ?_
 cases h
 exact ⟨hS0.ag,fun p q=>aX ⟨v0_0,rfl,hS0.kd h0_0 q⟩⟩
 refine Am<|Ac rfl<|Ab (AU (vs:=[vI a1]) (u:=.agg #[vI a1]) (e1 rfl) (fun p=>by kernel_rfl))<|Ab (FV.makeInterface rfl rfl)<|RG.panic .plain rfl ?_
 cases h
 exact BD hp0 func62 ⟨hS0.ag,rfl⟩
def dl_p (n:Nat) (a0:Bool) (a1:Int):Option (Except Th Unit):=
  (if a0 = true then (aC_p n a1).bind fun y2=>exc y2 (fun _y11=>some (.ok ())) (fun b0=>some (.error b0)) else some (.ok ()))
theorem dl_c (n:Nat) {L w} (hL:hl L w) {a0:Bool} {a1:Int}  {r:Except Th Unit} (h:dl_p n a0 a1 = some r) :
 Cl 63 #[.bool a0,vI a1] w (bj w (fun (_y:Unit) _ u=>u = .tuple #[]) (fun e=>.iface 176 (.agg #[vI e.fF])) r):=by
 unfold dl_p at h
 have hS0:=AC w
 refine MX.startP func63 rfl rfl rfl fun _ cs0 hb0 hp0=>Ae<|Ac rfl<|Aa<|MX.ifb rfl h (fun c1 h=>?_) (fun c1 h=>?_)
 refine Am<|Ac rfl<|xk h (fun d0 hy2 h=>?_) (fun k0 hy2 h=>?_)
 refine BQ (fst:=[]) (cap:=[]) .plain (bd 94) rfl (e1 rfl) (fun p q=>aC_c n (hS0.hL0 hL q)  hy2) fun j0 c0=>?_
 obtain ⟨b0,g0⟩:=hS0.agr c0
 cases h
 exact BD hp0 func63 ⟨b0.ag,rfl⟩
 refine Bk (.tuple #[]) (bd 94) rfl (e1 rfl) (fun p q=>BC (aC_c n (hS0.hL0 hL q)  hy2)) rfl<|Aa<|MX.fin rfl<|Ar hb0 func63 rfl .nil rfl ?_
 cases h
 exact ⟨hS0.ag,fun p q=>aX rfl⟩
 refine Ap<|MX.fin rfl<|Ar hb0 func63 rfl .nil rfl ?_
 cases h
 exact ⟨hS0.ag,fun p q=>aX rfl⟩
def ct_p (n:Nat) (a0:Ti) (a1:Ti):Option Ti:=
  (bb_p n a0.fG a1.fy).bind fun b0=>(bb_p n a0.fy a1.fG).bind fun c0=>(ci_p n b0 c0).bind fun d0=>some d0
theorem ct_c (n:Nat) {L w} (hL:hl L w) (a0:Ti) {v0_1:Value} (h0_1:Rep.R w L [v0_1] a0.fG.fu) {v0_3:Value} (h0_3:Rep.R w L [v0_3] a0.fy.fu) (a1:Ti) {v1_1:Value} (h1_1:Rep.R w L [v1_1] a1.fG.fu) {v1_3:Value} (h1_3:Rep.R w L [v1_3] a1.fy.fu)  {r:Ti} (h:ct_p n a0 a1 = some r) :
 Cl 105 #[.agg #[.bool a0.fG.fc,v0_1,.bool a0.fy.fc,v0_3],.agg #[.bool a1.fG.fc,v1_1,.bool a1.fy.fc,v1_3]] w (ae w fun w' u=>∃ v0_1 v0_3:Value,u = .agg #[.bool r.fG.fc,v0_1,.bool r.fy.fc,v0_3]/\Rep.R w' L [v0_1] r.fG.fu/\Rep.R w' L [v0_3] r.fy.fu):=by
 unfold ct_p at h
 refine AF func105 rfl rfl rfl fun _ cs0 hb0=>Ae<|RG.bx (AC w) rfl rfl fun g1 M0 x0 R0=>RG.bx x0 rfl rfl fun j1 P0 y0 U0=>RG.nl [.bool false,vN,.bool false,vN] y0 fun k1 Q0 c0 V0=>Aa<|Ai<|du 11 fun b0 d0=>Rv 0 b0 rfl d0 (fun _=>Be 0 rfl)<|Rx 1 3600 b0 rfl d0 (Bo (cs:=[.bool a0.fG.fc,v0_1]) rfl rfl (ai (c0.memA .t2) 0 2))<|Rv 2 b0 rfl d0 (fun _=>Be 2 rfl)<|Rx 3 3600 b0 rfl d0 (Bo (cs:=[.bool a1.fy.fc,v1_3]) rfl rfl (ai (c0.memA .t1) 2 2))<|Rv 5 b0 rfl d0 (fun _=>Be 2 rfl)<|Rx 6 3584 b0 rfl d0 (Bo (cs:=[.bool a0.fy.fc,v0_3]) rfl rfl (ai (c0.memA .t2) 2 2))<|Rv 7 b0 rfl d0 (fun _=>Be 0 rfl)<|Rx 8 3584 b0 rfl d0 (Bo (cs:=[.bool a1.fG.fc,v1_1]) rfl rfl (ai (c0.memA .t1) 0 2))<|bk h fun J0 G0 h=>Bu 4 511 b0 rfl .plain (bd 102) rfl (e2 rfl rfl) (fun p q=>bb_c n (c0.hL hL q) a0.fG (c0.km h0_1 q) a1.fy (c0.km h1_3 q) G0) rfl fun p1 b1 B0 ⟨Y0,hu_,E0⟩=>?_
 subst hu_
 obtain ⟨g0,W0⟩:=c0.agr B0
 refine bk h fun K0 H0 h=>Bu 9 1023 b0 rfl .plain (bd 102) rfl (e2 rfl rfl) (fun p q=>bb_c n (g0.hL hL q) a0.fy (g0.km h0_3 q) a1.fG (g0.km h1_1 q) H0) rfl fun q1 c1 C0 ⟨Z0,hu_,F0⟩=>?_
 subst hu_
 obtain ⟨s0,A0⟩:=g0.agr C0
 refine bk h fun k0 I0 h=>Bu 10 2047 b0 rfl .plain (bd 101) rfl (e2 rfl rfl) (fun p q=>ci_c n (s0.hL hL q) J0 (Av (Aq E0 A0) q) K0 (Av F0 q) I0) rfl fun s1 d1 D0 ⟨p0,q0,hu_,u0,v0⟩=>?_
 subst hu_
 obtain ⟨z0,X0⟩:=s0.agr D0
 refine BB 11 4095 b0 rfl rfl .plain (AD (news:=[.bool k0.fG.fc,p0,.bool k0.fy.fc,q0]) z0 .hd rfl rfl rfl rfl rfl rfl (o4 rfl (AY u0) rfl (AY v0))) fun u1 j0 t0=>AR (dk b0)<|Ak rfl<|Ar hb0 func105 rfl (.cons (.many (cs:=[.bool k0.fG.fc,p0,.bool k0.fy.fc,q0]) rfl rfl (j0.memA .hd)) .nil) rfl ?_
 cases h
 exact ⟨j0.ag,fun p q=>⟨p0,q0,rfl,j0.kd (Aq u0 t0) q,j0.kd (Aq v0 t0) q⟩⟩
def dE_p (n:Nat) (a0:Tb) (a1:Tb):Option (Tb × Int):=
  (bK_p n ([a0,a1]:List Tb)).bind fun s0=>(if s0 = true then (if a1.fN = (0,0,0,0,0,0,0,0) then some ((⟨(0,0,0,0,0,0,0,0),(0,0,0,0,0,0,0,0)⟩:Tb),(7:Int)) else (bK_p n ([a0,a1]:List Tb)).bind fun t0=>(if t0 = true then (bN_p n a0).bind fun u0=>(bN_p n a1).bind fun v0=>(ct_p n u0 v0).bind fun x0=>(bT_p n x0 (0:Int)).bind fun b0=>some (b0.1,b0.2) else (bT_p n (⟨(⟨false,([]:List UInt64)⟩:Tf),(⟨false,([]:List UInt64)⟩:Tf)⟩:Ti) (20:Int)).bind fun c0=>some (c0.1,c0.2))) else (bK_p n ([a0,a1]:List Tb)).bind fun j0=>(if j0 = true then (bN_p n a0).bind fun k0=>(bN_p n a1).bind fun p0=>(ct_p n k0 p0).bind fun q0=>(bT_p n q0 (0:Int)).bind fun d0=>some (d0.1,d0.2) else (bT_p n (⟨(⟨false,([]:List UInt64)⟩:Tf),(⟨false,([]:List UInt64)⟩:Tf)⟩:Ti) (20:Int)).bind fun g0=>some (g0.1,g0.2)))
theorem dE_c (n:Nat) {L w} (hL:hl L w) (a0:Tb) (a1:Tb)  {r:Tb × Int} (h:dE_p n a0 a1 = some r) :
 Cl 66 #[.agg ((ac a0)).toArray,.agg ((ac a1)).toArray] w (ae w fun _ u=>u = .tuple #[.agg ((ac r.1)).toArray,vI r.2]):=by
 unfold dE_p at h
 refine AF func66 rfl rfl rfl fun _ cs0 hb0=>Ae<|RG.bx (AC w) rfl rfl fun t4 K2 z1 q3=>RG.bx z1 rfl rfl fun D4 P2 C1 y3=>RG.nl zL C1 fun K4 R2 D0 D3=>Af rfl<|Aa<|Ai<|Ae<|Ab (AK rfl (D0.memA .t2))<|Ab (AK rfl (D0.memA .t1))<|Ao .plain rfl (AJ (α:=Tb) (xs:=([a0,a1]:List Tb)) (vs:=[.agg ((ac a0)).toArray,.agg ((ac a1)).toArray]) (ds' :=(ac a0 ++ ac a1)) rfl D0 im rfl (e2 rfl rfl) (by kernel_rfl) rfl) fun M4 U2 b0 E3=>bk h fun C2 s2 h=>Bk (.bool C2) (bd 99) rfl (e1 rfl) (fun p q=>bK_c n (b0.hL0 hL q) (Av (St.lend (α:=Tb) (L:=L) b0 .hd (AB (cs:=(ac a0 ++ ac a1)) (xs:=(([a0,a1]:List Tb):List Tb)) b0 L (Ax (cs:=(ac a0)) (ds:=(ac a1)) (ct a0.fN a0.fD) (Ax (cs:=(ac a1)) (ds:=[]) (ct a1.fN a1.fD) (AG _ _)))) hL) q) s2) rfl<|Ac rfl<|RG.ifb (s:=10) rfl h (fun v1 h=>?_) (fun v1 h=>?_)
 refine RG.fg 0 rfl<|Az (Bo (cs:=(ak a1.fN)) rfl rfl (ai (b0.memA .t2) 0 8))<|Az (AU (vs:=[]) (u:=.agg zQ) am (fun p=>by kernel_rfl))<|Az (FV.eqlV (v:=.agg ((ak a1.fN)).toArray) (u:=.agg zQ) rfl rfl (ml a1.fN (0,0,0,0,0,0,0,0)))<|Bl rfl rfl<|Aa<|AO rfl h (fun x1 h=>?_) (fun x1 h=>?_)
 refine Ae<|Ab (AU (vs:=[]) (u:=.agg zM) am (fun p=>by kernel_rfl))<|AX zL b0 .t1 (aq rfl) fun P4 W0 F3=>Af rfl<|Aa<|Ak rfl<|Ar hb0 func66 rfl (.cons (.many (cs:=zL) rfl rfl (W0.memA .t1)) (.cons (.tmp rfl) .nil)) rfl ?_
 cases h
 exact W0.gv
 refine Ap<|Ae<|Ab (AK rfl (b0.memA .t3))<|Ab (AK rfl (b0.memA .t2))<|BH (fst:=[]) (cap:=[]) (vs:=[.agg ((ac a0)).toArray,.agg ((ac a1)).toArray,.func (.func 105) #[] #[]]) .plain (bd 57) func57 rfl rfl rfl rfl (e3 rfl rfl rfl) rfl fun b3 j1 Q3=>Ae<|RG.bx b0 rfl rfl fun Q4 V2 E1 G3=>RG.bx E1 rfl rfl fun R4 W2 F1 H3=>RG.nl [.bool false,vN,.bool false,vN] F1 fun U4 X2 E0 I3=>Af rfl<|Aa<|Ai<|Ae<|Ab (AK rfl (E0.memA .t2))<|Ab (AK rfl (E0.memA .t1))<|Ao .plain rfl (AJ (α:=Tb) (xs:=([a0,a1]:List Tb)) (vs:=[.agg ((ac a0)).toArray,.agg ((ac a1)).toArray]) (ds' :=(ac a0 ++ ac a1)) rfl E0 im rfl (e2 rfl rfl) (by kernel_rfl) rfl) fun V4 Y2 j0 J3=>bk h fun D2 u2 h=>Bk (.bool D2) (bd 99) rfl (e1 rfl) (fun p q=>bK_c n (j0.hL0 hL q) (Av (St.lend (α:=Tb) (L:=L) j0 .hd (AB (cs:=(ac a0 ++ ac a1)) (xs:=(([a0,a1]:List Tb):List Tb)) j0 L (Ax (cs:=(ac a0)) (ds:=(ac a1)) (ct a0.fN a0.fD) (Ax (cs:=(ac a1)) (ds:=[]) (ct a1.fN a1.fD) (AG _ _)))) hL) q) u2) rfl<|Ab (Bp rfl)<|Aa<|BU rfl h (fun y1 h=>?_) (fun y1 h=>?_)
 refine Ap<|Ai<|du 6 fun d0 u0=>Rv 0 d0 rfl u0 (fun _=>Ah rfl)<|Rx 1 244 d0 rfl u0 (AK rfl (j0.memA .t3))<|Rx 3 240 d0 rfl u0 (AK rfl (j0.memA .t2))<|bk h fun E2 v2 h=>Bu 2 15 d0 rfl .plain (bd 100) rfl (e1 rfl) (fun p q=>bN_c n (j0.hL hL q) a0 v2) rfl fun W4 j4 K1 ⟨X3,Y3,hu_,W1,X1⟩=>?_
 subst hu_
 obtain ⟨X0,K3⟩:=j0.agr K1
 refine bk h fun F2 x2 h=>Bu 4 31 d0 rfl .plain (bd 100) rfl (e1 rfl) (fun p q=>bN_c n (X0.hL hL q) a1 x2) rfl fun X4 k4 M1 ⟨Z3,b4,hu_,Y1,Z1⟩=>?_
 subst hu_
 obtain ⟨Y0,c1⟩:=X0.agr M1
 refine bk h fun p0 y2 h=>Bu 5 63 d0 rfl .plain (bd 105) rfl (e2 rfl rfl) (fun p q=>ct_c n (Y0.hL hL q) E2 (Av (Aq W1 c1) q) (Av (Aq X1 c1) q) F2 (Av Y1 q) (Av Z1 q) y2) rfl fun Y4 p4 P1 ⟨H0,I0,hu_,q1,s1⟩=>?_
 subst hu_
 obtain ⟨G1,M3⟩:=Y0.agr P1
 refine BB 6 127 d0 rfl rfl .plain (AD (news:=[.bool p0.fG.fc,H0,.bool p0.fy.fc,I0]) G1 .t1 rfl rfl rfl rfl rfl rfl (o4 rfl (AY q1) rfl (AY s1))) fun Z4 s0 d1=>Rv 7 d0 rfl u0 (fun _=>Bm rfl)<|AR (dk d0)<|Ak rfl<|Ar (u:=.tuple #[.agg #[.bool p0.fG.fc,H0,.bool p0.fy.fc,I0],vI 0]) j1 func57 rfl (.cons (.many (cs:=[.bool p0.fG.fc,H0,.bool p0.fy.fc,I0]) rfl rfl (s0.memA .t1)) (.cons (.tmp rfl) .nil)) rfl<|Ab (Aj rfl rfl)<|Ab (Aj rfl rfl)<|bk h fun v0 b2 h=>Bk (.tuple #[.agg ((ac v0.1)).toArray,vI v0.2]) (bd 56) rfl (e2 rfl rfl) (fun p q=>bT_c n (s0.hL0 hL q) p0 (s0.kd (Aq q1 d1) q) (s0.kd (Aq s1 d1) q) b2) rfl<|Ab (Aj rfl rfl)<|Ab (Aj rfl rfl)<|AX (ac v0.1) s0 .t5 (aq rfl) fun q4 J0 c3=>Af rfl<|Aa<|Ak rfl<|Ar hb0 func66 rfl (.cons (.many (cs:=(ac v0.1)) rfl rfl (J0.memA .t5)) (.cons (.tmp rfl) .nil)) rfl ?_
 cases h
 exact J0.gv
 refine Ae<|RG.nl [.bool false,vN,.bool false,vN] j0 fun s4 G2 K0 d3=>Aa<|Ae<|Ab (AK rfl (K0.memA .hd))<|AX [.bool false,vN,.bool false,vN] K0 .t2 (aq rfl) fun u4 A0 g3=>Af rfl<|Aa<|Ak rfl<|Ar (u:=.tuple #[.agg #[.bool false,vN,.bool false,vN],vI 20]) j1 func57 rfl (.cons (.many (cs:=[.bool false,vN,.bool false,vN]) rfl rfl (A0.memA .t2)) (.cons (.tmp rfl) .nil)) rfl<|Ab (Aj rfl rfl)<|Ab (Aj rfl rfl)<|bk h fun x0 c2 h=>Bk (.tuple #[.agg ((ac x0.1)).toArray,vI x0.2]) (bd 56) rfl (e2 rfl rfl) (fun p q=>bT_c n (A0.hL0 hL q) (⟨(⟨false,([]:List UInt64)⟩:Tf),(⟨false,([]:List UInt64)⟩:Tf)⟩:Ti) (Av (Rep.nilSlice _ _) q) (Av (Rep.nilSlice _ _) q) c2) rfl<|Ab (Aj rfl rfl)<|Ab (Aj rfl rfl)<|AX (ac x0.1) A0 .t6 (aq rfl) fun v4 M0 j3=>Af rfl<|Aa<|Ak rfl<|Ar hb0 func66 rfl (.cons (.many (cs:=(ac x0.1)) rfl rfl (M0.memA .t6)) (.cons (.tmp rfl) .nil)) rfl ?_
 cases h
 exact M0.gv
 refine Al<|Al<|Al<|Al<|Bn rfl rfl<|Aa<|BA rfl<|Ap<|Ae<|Ab (AK rfl (b0.memA .t3))<|Ab (AK rfl (b0.memA .t2))<|BH (fst:=[]) (cap:=[]) (vs:=[.agg ((ac a0)).toArray,.agg ((ac a1)).toArray,.func (.func 105) #[] #[]]) .plain (bd 57) func57 rfl rfl rfl rfl (e3 rfl rfl rfl) rfl fun Z2 g1 P3=>Ae<|RG.bx b0 rfl rfl fun x4 H2 A1 k3=>RG.bx A1 rfl rfl fun y4 I2 B1 p3=>RG.nl [.bool false,vN,.bool false,vN] B1 fun z4 J2 B0 s3=>Af rfl<|Aa<|Ai<|Ae<|Ab (AK rfl (B0.memA .t2))<|Ab (AK rfl (B0.memA .t1))<|Ao .plain rfl (AJ (α:=Tb) (xs:=([a0,a1]:List Tb)) (vs:=[.agg ((ac a0)).toArray,.agg ((ac a1)).toArray]) (ds' :=(ac a0 ++ ac a1)) rfl B0 im rfl (e2 rfl rfl) (by kernel_rfl) rfl) fun A4 M2 g0 u3=>bk h fun z2 d2 h=>Bk (.bool z2) (bd 99) rfl (e1 rfl) (fun p q=>bK_c n (g0.hL0 hL q) (Av (St.lend (α:=Tb) (L:=L) g0 .hd (AB (cs:=(ac a0 ++ ac a1)) (xs:=(([a0,a1]:List Tb):List Tb)) g0 L (Ax (cs:=(ac a0)) (ds:=(ac a1)) (ct a0.fN a0.fD) (Ax (cs:=(ac a1)) (ds:=[]) (ct a1.fN a1.fD) (AG _ _)))) hL) q) d2) rfl<|Ab (Bp rfl)<|Aa<|BU rfl h (fun u1 h=>?_) (fun u1 h=>?_)
 refine Ap<|Ai<|du 6 fun c0 t0=>Rv 0 c0 rfl t0 (fun _=>Ah rfl)<|Rx 1 244 c0 rfl t0 (AK rfl (g0.memA .t3))<|Rx 3 240 c0 rfl t0 (AK rfl (g0.memA .t2))<|bk h fun A2 g2 h=>Bu 2 15 c0 rfl .plain (bd 100) rfl (e1 rfl) (fun p q=>bN_c n (g0.hL hL q) a0 g2) rfl fun B4 c4 H1 ⟨R3,U3,hu_,Q1,R1⟩=>?_
 subst hu_
 obtain ⟨P0,v3⟩:=g0.agr H1
 refine bk h fun B2 j2 h=>Bu 4 31 c0 rfl .plain (bd 100) rfl (e1 rfl) (fun p q=>bN_c n (P0.hL hL q) a1 j2) rfl fun C4 d4 I1 ⟨V3,W3,hu_,U1,V1⟩=>?_
 subst hu_
 obtain ⟨Q0,Z0⟩:=P0.agr I1
 refine bk h fun k0 k2 h=>Bu 5 63 c0 rfl .plain (bd 105) rfl (e2 rfl rfl) (fun p q=>ct_c n (Q0.hL hL q) A2 (Av (Aq Q1 Z0) q) (Av (Aq R1 Z0) q) B2 (Av U1 q) (Av V1 q) k2) rfl fun E4 g4 J1 ⟨F0,G0,hu_,k1,p1⟩=>?_
 subst hu_
 obtain ⟨D1,x3⟩:=Q0.agr J1
 refine BB 6 127 c0 rfl rfl .plain (AD (news:=[.bool k0.fG.fc,F0,.bool k0.fy.fc,G0]) D1 .t1 rfl rfl rfl rfl rfl rfl (o4 rfl (AY k1) rfl (AY p1))) fun F4 q0 b1=>Rv 7 c0 rfl t0 (fun _=>Bm rfl)<|AR (dk c0)<|Ak rfl<|Ar (u:=.tuple #[.agg #[.bool k0.fG.fc,F0,.bool k0.fy.fc,G0],vI 0]) g1 func57 rfl (.cons (.many (cs:=[.bool k0.fG.fc,F0,.bool k0.fy.fc,G0]) rfl rfl (q0.memA .t1)) (.cons (.tmp rfl) .nil)) rfl<|Ab (Aj rfl rfl)<|Ab (Aj rfl rfl)<|bk h fun y0 p2 h=>Bk (.tuple #[.agg ((ac y0.1)).toArray,vI y0.2]) (bd 56) rfl (e2 rfl rfl) (fun p q=>bT_c n (q0.hL0 hL q) k0 (q0.kd (Aq k1 b1) q) (q0.kd (Aq p1 b1) q) p2) rfl<|Ab (Aj rfl rfl)<|Ab (Aj rfl rfl)<|AX (ac y0.1) q0 .t5 (aq rfl) fun G4 R0 z3=>Af rfl<|Aa<|Ak rfl<|Ar hb0 func66 rfl (.cons (.many (cs:=(ac y0.1)) rfl rfl (R0.memA .t5)) (.cons (.tmp rfl) .nil)) rfl ?_
 cases h
 exact R0.gv
 refine Ae<|RG.nl [.bool false,vN,.bool false,vN] g0 fun H4 Q2 U0 A3=>Aa<|Ae<|Ab (AK rfl (U0.memA .hd))<|AX [.bool false,vN,.bool false,vN] U0 .t2 (aq rfl) fun I4 C0 B3=>Af rfl<|Aa<|Ak rfl<|Ar (u:=.tuple #[.agg #[.bool false,vN,.bool false,vN],vI 20]) g1 func57 rfl (.cons (.many (cs:=[.bool false,vN,.bool false,vN]) rfl rfl (C0.memA .t2)) (.cons (.tmp rfl) .nil)) rfl<|Ab (Aj rfl rfl)<|Ab (Aj rfl rfl)<|bk h fun z0 q2 h=>Bk (.tuple #[.agg ((ac z0.1)).toArray,vI z0.2]) (bd 56) rfl (e2 rfl rfl) (fun p q=>bT_c n (C0.hL0 hL q) (⟨(⟨false,([]:List UInt64)⟩:Tf),(⟨false,([]:List UInt64)⟩:Tf)⟩:Ti) (Av (Rep.nilSlice _ _) q) (Av (Rep.nilSlice _ _) q) q2) rfl<|Ab (Aj rfl rfl)<|Ab (Aj rfl rfl)<|AX (ac z0.1) C0 .t6 (aq rfl) fun J4 V0 C3=>Af rfl<|Aa<|Ak rfl<|Ar hb0 func66 rfl (.cons (.many (cs:=(ac z0.1)) rfl rfl (V0.memA .t6)) (.cons (.tmp rfl) .nil)) rfl ?_
 cases h
 exact V0.gv
def aG_l1 (n:Nat) (a0:List Ta) (D0:List Tb) (G0:Nat × U16 -> Option ((Except Th Tb) ⊕ (U16))):Nat × U16 -> Option ((Except Th Tb) ⊕ (U16))
  | (c0,d0,g0,j0,k0,p0,q0,s0,t0,u0,v0,x0,y0,z0,A0,B0,C0)=>(if c0 < a0.length then (a0[c0]?).bind fun K0=>(bO_p n K0.fE (1:Int)).bind fun P0=>exc P0 (fun Q0=>(D0[c0]?).bind fun M0=>(dC_p n Q0 M0).bind fun E0=>(ao_p n E0.1 E0.2).bind fun R0=>exc R0 (fun U0=>(dD_p n (⟨(d0,g0,j0,k0,p0,q0,s0,t0),(u0,v0,x0,y0,z0,A0,B0,C0)⟩:Tb) U0).bind fun F0=>(ao_p n F0.1 F0.2).bind fun V0=>exc V0 (fun b0=>G0 (c0 + 1,b0.fN.1,b0.fN.2.1,b0.fN.2.2.1,b0.fN.2.2.2.1,b0.fN.2.2.2.2.1,b0.fN.2.2.2.2.2.1,b0.fN.2.2.2.2.2.2.1,b0.fN.2.2.2.2.2.2.2,b0.fD.1,b0.fD.2.1,b0.fD.2.2.1,b0.fD.2.2.2.1,b0.fD.2.2.2.2.1,b0.fD.2.2.2.2.2.1,b0.fD.2.2.2.2.2.2.1,b0.fD.2.2.2.2.2.2.2)) (fun J0=>some (.inl (.error J0)))) (fun I0=>some (.inl (.error I0)))) (fun H0=>(D0[c0]?).bind fun _x333=>some (.inl (.error H0))) else some (.inr (d0,g0,j0,k0,p0,q0,s0,t0,u0,v0,x0,y0,z0,A0,B0,C0)))
def aG_l2 (_n:Nat) (a0:List Ta) (d0:Int × Nat -> Option Int):Int × Nat -> Option Int
  | (c0,b0)=>(if b0 < a0.length then (a0[b0]?).bind fun j0=>(chk (c0 + j0.fE)).bind fun g0=>d0 (g0,b0 + 1) else some c0)
def aG_p (n:Nat) (a0:List Ta) (a1:Te) (a2:List Int) (a3:Int):Option (Except Th Tb):=
  (aO_p n a0 a1 a2 a3).bind fun c0=>(bn_p n c0.1 c0.2).bind fun P0=>exc P0 (fun Q0=>Option.bind (ah (aG_l2 n a0) n (0,0)) (fun g0=>(dl_p n (decide (g0 = 0)) (7:Int)).bind fun K0=>exc K0 (fun _y123=>(bO_p n (0:Int) (1:Int)).bind fun M0=>exc M0 (fun b0=>thn (ah (aG_l1 n a0 Q0) n (0,b0.fN.1,b0.fN.2.1,b0.fN.2.2.1,b0.fN.2.2.2.1,b0.fN.2.2.2.2.1,b0.fN.2.2.2.2.2.1,b0.fN.2.2.2.2.2.2.1,b0.fN.2.2.2.2.2.2.2,b0.fD.1,b0.fD.2.1,b0.fD.2.2.1,b0.fD.2.2.2.1,b0.fD.2.2.2.2.1,b0.fD.2.2.2.2.2.1,b0.fD.2.2.2.2.2.2.1,b0.fD.2.2.2.2.2.2.2)) (fun (t0,u0,v0,x0,y0,z0,A0,B0,C0,D0,E0,F0,G0,H0,I0,J0)=>(bO_p n g0 (1:Int)).bind fun R0=>exc R0 (fun U0=>(dE_p n (⟨(t0,u0,v0,x0,y0,z0,A0,B0),(C0,D0,E0,F0,G0,H0,I0,J0)⟩:Tb) U0).bind fun d0=>(ao_p n d0.1 d0.2).bind fun V0=>exc V0 (fun W0=>some (.ok W0)) (fun s0=>some (.error s0))) (fun q0=>some (.error q0)))) (fun k0=>some (.error k0))) (fun j0=>some (.error j0)))) (fun p0=>some (.error p0))
theorem aG_c (n:Nat) {L w} (hL:hl L w) {a0:List Ta} {v0_0:Value} (h0_0:Rep.R w L [v0_0] a0) {p0:Nat} (m0:∀ j9 v9,([v0_0]:List Value)[j9]? = some v9 -> w.cell? ((⟨p0,0,none⟩:Addr).add j9) = some v9) (a1:Te) {v1_3:Value} (h1_3:Rep.R w L [v1_3] a1.fm) {p1:Nat} (m1:∀ j9 v9,([vI a1.fh,vI a1.fe,vI a1.fj,v1_3]:List Value)[j9]? = some v9 -> w.cell? ((⟨p1,0,none⟩:Addr).add j9) = some v9) {a2:List Int} {v2_0:Value} (h2_0:Rep.R w L [v2_0] a2) {p2:Nat} (m2:∀ j9 v9,([v2_0]:List Value)[j9]? = some v9 -> w.cell? ((⟨p2,0,none⟩:Addr).add j9) = some v9) {a3:Int} {p3:Nat} (m3:∀ j9 v9,([vI a3]:List Value)[j9]? = some v9 -> w.cell? ((⟨p3,0,none⟩:Addr).add j9) = some v9) (hG0:Glob 0 tab0 w)  {r:Except Th Tb} (h:aG_p n a0 a1 a2 a3 = some r) :
 Cl 61 #[.pointer (some ⟨p0,0,none⟩),.pointer (some ⟨p1,0,none⟩),.pointer (some ⟨p2,0,none⟩),.pointer (some ⟨p3,0,none⟩)] w (bj w (fun (y:Tb) _ u=>u = .agg ((ac y)).toArray) (fun e=>.iface 176 (.agg #[vI e.fF])) r):=by
 unfold aG_p at h
 refine MX.startP func61 rfl rfl rfl fun _ cs0 hb0 hp0=>Ae<|RG.nl zL (AC w) fun V4 U0 t0 z4=>Aa<|Ae<|AL rfl ((fun j9 v9 h9=>t0.ag.cell0 (m0 j9 v9 h9)) 0 _ rfl)<|Ab (AK rfl (fun j9 v9 h9=>t0.ag.cell0 (m1 j9 v9 h9)))<|AL rfl ((fun j9 v9 h9=>t0.ag.cell0 (m2 j9 v9 h9)) 0 _ rfl)<|AL rfl ((fun j9 v9 h9=>t0.ag.cell0 (m3 j9 v9 h9)) 0 _ rfl)<|bk h fun D5 E3 h=>jE (bd 19) rfl (e4 rfl rfl rfl rfl) (fun p q=>aO_c n (t0.hL hL q) (t0.km h0_0 q) a1 (t0.km h1_3 q) (t0.km h2_0 q) (hG0.keep (t0.ag.trans q)) E3) rfl fun d5 U4 H2 ⟨Q4,hu_,M1⟩=>?_
 subst hu_
 obtain ⟨V0,B4⟩:=t0.agr H2
 refine Ab (Aj rfl rfl)<|Ab (Aj rfl rfl)<|xk h (fun q4 x1 h=>?_) (fun E5 x1 h=>?_)
 refine BQ (fst:=[]) (cap:=[]) .plain (bd 62) rfl (e2 rfl rfl) (fun p q=>bn_c n (V0.hL hL q) (Av M1 q) x1) fun g5 I2=>?_
 obtain ⟨k2,C4⟩:=V0.agr I2
 cases h
 exact BD hp0 func61 ⟨k2.ag,rfl⟩
 refine jE (bd 62) rfl (e2 rfl rfl) (fun p q=>BC (bn_c n (V0.hL hL q) (Av M1 q) x1)) rfl fun j5 Q1 J2 ⟨R4,hu_,P1⟩=>?_
 subst hu_
 obtain ⟨g1,E4⟩:=V0.agr J2
 refine Af rfl<|Aa<|Ae<|Af rfl<|Aa<|Ai<|Ae<|AL rfl ((fun j9 v9 h9=>g1.ag.cell0 (m0 j9 v9 h9)) 0 _ rfl) ?_
 have K1:=AM h0_0 g1
 have K4:a0.length <= 281474976710656:=AS K1
 refine Ab (AW (xs:=a0) underlying30 rfl K1)<|Ac rfl<|Aa<|Au ?_
 obtain ⟨P4,t3,Y2⟩:=ao h
 refine BT (α:=Int × Nat) (fun ⟨x0,v0⟩=>[(0,.pointer (some ⟨p0,0,none⟩)),(4,vP U0),(5,Q1),(6,vI x0),(20,v0_0),(21,vI ((a0.length:Nat):Int)),(22,vI ((v0:Nat):Int))]) (fun ⟨x0,v0⟩=>[.cells U0 zL 42]) (fun ⟨x0,v0⟩=>(x0,v0)) (0,0) t3 g1 ?_
 rintro U3 ⟨x0,v0⟩ A5 Z1 u0 s1 h
 unfold aG_l2 at h
 try dsimp only at h
 refine Ae<|Ab (Bj (i:=v0) (j:=a0.length) rfl rfl)<|Aa<|Ai<|AO rfl h (fun X1 h=>?_) (fun X1 h=>?_)
 refine Ap<|Ai<|Au<|Ae<|bk h fun X0 A3 h=>?_
 obtain ⟨K3,X3,U2,Z2,c4,u3,g3⟩:=Bg (AM h0_0 u0) A3
 obtain rfl:=bw u3
 refine Ab (Bi 3 v0 rfl U2 rfl rfl Z2)<|Ab (AK rfl g3)<|RG.nl [.string ⟨#[]⟩,vI 0,vW 0] u0 fun W4 V3 b2 A2=>AX [.string X0.ft,vI X0.fE,vU X0.fm] b2 .hd (aq rfl) fun X4 G1 B2=>Aa<|Am<|Ac rfl<|AT 1 rfl<|AL rfl ((G1.memA .hd) 1 _ rfl)<|bk h fun I3 z3 h=>Ab (BE (i:=x0) (j:=X0.fE) rfl rfl z3)<|Af rfl<|Aa<|Aw<|Am<|Ab (Bf (i:=v0) (j:=1) rfl rfl (by omega))<|Ac rfl<|Aa ?_
 obtain ⟨c2,C2⟩:=AH G1 .d1
 exact Z1 (I3,v0 + 1) c2 (Tt s1 (Tt A2 (Tt B2 C2))) h
 refine AV rfl ?_
 have h:=Y2 _ h
 try dsimp only at h
 refine Ae<|Ac rfl<|Ab (FV.eql (i:=x0) (j:=0) rfl rfl)<|xk h (fun k4 u1 h=>?_) (fun C5 u1 h=>?_)
 refine BQ (fst:=[]) (cap:=[]) .plain (bd 63) rfl (e2 rfl rfl) (fun p q=>dl_c n (u0.hL0 hL q)  u1) fun Y4 F2=>?_
 obtain ⟨d2,y4⟩:=u0.agr F2
 cases h
 exact BD hp0 func61 ⟨d2.ag,rfl⟩
 refine Bk (.tuple #[]) (bd 63) rfl (e2 rfl rfl) (fun p q=>BC (dl_c n (u0.hL0 hL q)  u1)) rfl<|Aa<|Ae<|xk h (fun p4 v1 h=>?_) (fun d0 v1 h=>?_)
 refine BQ (fst:=[]) (cap:=[]) .plain (bd 64) rfl (e2 rfl rfl) (fun p q=>bO_c n (u0.hL0 hL q)  v1) fun Z4 G2=>?_
 obtain ⟨g2,A4⟩:=u0.agr G2
 cases h
 exact BD hp0 func61 ⟨g2.ag,rfl⟩
 refine Bk (.agg ((ac d0)).toArray) (bd 64) rfl (e2 rfl rfl) (fun p q=>BC (bO_c n (u0.hL0 hL q)  v1)) rfl<|RG.nl zL u0 fun b5 F1 j2 I1=>AX (ac d0) j2 .hd (aq rfl) fun c5 c1 J1=>Aa<|Ai<|Ae<|AL rfl ((fun j9 v9 h9=>c1.ag.cell0 (m0 j9 v9 h9)) 0 _ rfl)<|Ab (AW (xs:=a0) underlying30 rfl (AM h0_0 c1))<|Ac rfl<|Aa<|Au<|tn h fun M4 s3 W0=>BT (α:=Nat × U16) (fun ⟨q0,z0,A0,B0,C0,D0,E0,F0,G0,H0,I0,J0,K0,M0,P0,Q0,R0⟩=>[(4,vP U0),(5,Q1),(6,vI x0),(9,vP F1),(35,v0_0),(36,vI ((a0.length:Nat):Int)),(37,vI ((q0:Nat):Int))]) (fun ⟨q0,z0,A0,B0,C0,D0,E0,F0,G0,H0,I0,J0,K0,M0,P0,Q0,R0⟩=>[.cells F1 [vU z0,vU A0,vU B0,vU C0,vU D0,vU E0,vU F0,vU G0,vU H0,vU I0,vU J0,vU K0,vU M0,vU P0,vU Q0,vU R0] 42,.cells U0 zL 42]) (fun ⟨q0,z0,A0,B0,C0,D0,E0,F0,G0,H0,I0,J0,K0,M0,P0,Q0,R0⟩=>(q0,z0,A0,B0,C0,D0,E0,F0,G0,H0,I0,J0,K0,M0,P0,Q0,R0)) (0,d0.fN.1,d0.fN.2.1,d0.fN.2.2.1,d0.fN.2.2.2.1,d0.fN.2.2.2.2.1,d0.fN.2.2.2.2.2.1,d0.fN.2.2.2.2.2.2.1,d0.fN.2.2.2.2.2.2.2,d0.fD.1,d0.fD.2.1,d0.fD.2.2.1,d0.fD.2.2.2.1,d0.fD.2.2.2.2.1,d0.fD.2.2.2.2.2.1,d0.fD.2.2.2.2.2.2.1,d0.fD.2.2.2.2.2.2.2) s3 c1 ?_
 rintro R3 ⟨q0,z0,A0,B0,C0,D0,E0,F0,G0,H0,I0,J0,K0,M0,P0,Q0,R0⟩ z5 Y1 k0 j1 h
 unfold aG_l1 at h
 try dsimp only at h
 refine Ae<|Ab (Bj (i:=q0) (j:=a0.length) rfl rfl)<|Aa<|Ai<|AO rfl h (fun W1 h=>?_) (fun W1 h=>?_)
 refine Ap<|Ai<|Au<|Ae<|Ac rfl<|bk h fun D1 B3 h=>?_
 obtain ⟨M3,Y3,V2,b3,d4,v3,j3⟩:=Bg (AM h0_0 k0) B3
 obtain rfl:=bw v3
 refine Ab (Bi 3 q0 rfl V2 rfl rfl b3)<|Ab (AK rfl j3)<|RG.nl [.string ⟨#[]⟩,vI 0,vW 0] k0 fun k5 W3 q2 k1=>Af rfl<|AX [.string D1.ft,vI D1.fE,vU D1.fm] q2 .hd (aq rfl) fun p5 j0 q1=>Aa<|du 16 fun b0 c0=>Rx 0 126976 b0 rfl c0 (AK rfl (j0.memA .t1))<|Rv 1 b0 rfl c0 (fun _=>Be 1 rfl)<|Rx 2 130824 b0 rfl c0 (AN rfl ((j0.memA .hd) 1 _ rfl))<|xk h (fun s4 y1 h=>?_) (fun R1 y1 h=>?_)
 refine Rv 4 b0 rfl c0 (fun _=>Ah rfl)<|Rv 5 b0 rfl c0 (fun _=>Ah rfl)<|bk h fun B5 C3 h=>?_
 obtain ⟨P3,Z3,W2,c3,g4,x3,k3⟩:=Bg (Aq P1 (Tt s1 (Tt I1 (Tt J1 (Tt j1 (Tt k1 q1)))))) C3
 obtain rfl:=kI x3
 refine Rv 6 b0 rfl c0 (fun _=>Bi 16 q0 rfl W2 rfl rfl c3)<|Rx 7 130816 b0 rfl c0 (AK rfl k3) ?_
 have h:=ap h W0
 refine BS (i:=3) (rk b0) (RO.callE (fst:=[]) (cap:=[]) rfl .plain (bd 64) rfl (e2 rfl rfl) (fun p q=>bO_c n (j0.hL0 hL q)  y1) (fun q5 K2=>?_))
 obtain ⟨s2,D4⟩:=j0.agr K2
 cases h
 exact BD hp0 func61 ⟨s2.ag,rfl⟩
 refine RD.cq 3 15 130816 (.agg ((ac R1)).toArray) b0 rfl c0 (bd 64) rfl (e2 rfl rfl) (fun p q=>BC (bO_c n (j0.hL0 hL q)  y1)) rfl<|Rv 4 b0 rfl c0 (fun _=>Ah rfl)<|Rv 5 b0 rfl c0 (fun _=>Ah rfl)<|bk h fun J3 D3 h=>?_
 obtain ⟨Q3,b4,X2,d3,j4,y3,q3⟩:=Bg (Aq P1 (Tt s1 (Tt I1 (Tt J1 (Tt j1 (Tt k1 q1)))))) D3
 obtain rfl:=kI y3
 refine Rv 6 b0 rfl c0 (fun _=>Bi 16 q0 rfl X2 rfl rfl d3)<|Rx 7 130816 b0 rfl c0 (AK rfl q3)<|bk h fun Y0 F3 h=>RD.cq 8 511 130560 (.tuple #[.agg ((ac Y0.1)).toArray,vI Y0.2]) b0 rfl c0 (bd 21) rfl (e2 rfl rfl) (fun p q=>dC_c n (j0.hL0 hL q) R1 J3 F3) rfl<|Rv 9 b0 rfl c0 (fun _=>Aj rfl rfl)<|Rv 10 b0 rfl c0 (fun _=>Aj rfl rfl)<|xk h (fun t4 z1 h=>?_) (fun U1 z1 h=>?_)
 have h:=ap h W0
 refine BS (i:=11) (rk b0) (RO.callE (fst:=[]) (cap:=[]) rfl .plain (bd 65) rfl (e2 rfl rfl) (fun p q=>ao_c n (j0.hL0 hL q) Y0.1 z1) (fun s5 M2=>?_))
 obtain ⟨t2,F4⟩:=j0.agr M2
 cases h
 exact BD hp0 func61 ⟨t2.ag,rfl⟩
 refine RD.cq 11 4095 126976 (.agg ((ac U1)).toArray) b0 rfl c0 (bd 65) rfl (e2 rfl rfl) (fun p q=>BC (ao_c n (j0.hL0 hL q) Y0.1 z1)) rfl<|bk h fun Z0 G3 h=>RD.cq 12 8191 122880 (.tuple #[.agg ((ac Z0.1)).toArray,vI Z0.2]) b0 rfl c0 (bd 22) rfl (e2 rfl rfl) (fun p q=>dD_c n (j0.hL0 hL q) (⟨(z0,A0,B0,C0,D0,E0,F0,G0),(H0,I0,J0,K0,M0,P0,Q0,R0)⟩:Tb) U1 G3) rfl<|Rv 13 b0 rfl c0 (fun _=>Aj rfl rfl)<|Rv 14 b0 rfl c0 (fun _=>Aj rfl rfl)<|xk h (fun u4 A1 h=>?_) (fun g0 A1 h=>?_)
 have h:=ap h W0
 refine BS (i:=15) (rk b0) (RO.callE (fst:=[]) (cap:=[]) rfl .plain (bd 65) rfl (e2 rfl rfl) (fun p q=>ao_c n (j0.hL0 hL q) Z0.1 A1) (fun t5 P2=>?_))
 obtain ⟨u2,G4⟩:=j0.agr P2
 cases h
 exact BD hp0 func61 ⟨u2.ag,rfl⟩
 refine RD.cq 15 65535 65536 (.agg ((ac g0)).toArray) b0 rfl c0 (bd 65) rfl (e2 rfl rfl) (fun p q=>BC (ao_c n (j0.hL0 hL q) Z0.1 A1)) rfl<|BB 16 131071 b0 rfl rfl .plain (AD (news:=(ac g0)) j0 .t1 rfl rfl rfl rfl rfl rfl (aq rfl)) fun u5 v2 D2=>AR (dk b0)<|Aw<|Am<|Ab (Bf (i:=q0) (j:=1) rfl rfl (by omega))<|Ac rfl<|Aa ?_
 obtain ⟨x2,E2⟩:=AH v2 .d1
 exact Y1 (q0 + 1,g0.fN.1,g0.fN.2.1,g0.fN.2.2.1,g0.fN.2.2.2.1,g0.fN.2.2.2.2.1,g0.fN.2.2.2.2.2.1,g0.fN.2.2.2.2.2.2.1,g0.fN.2.2.2.2.2.2.2,g0.fD.1,g0.fD.2.1,g0.fD.2.2.1,g0.fD.2.2.2.1,g0.fD.2.2.2.2.1,g0.fD.2.2.2.2.2.1,g0.fD.2.2.2.2.2.2.1,g0.fD.2.2.2.2.2.2.2) x2 (Tt j1 (Tt k1 (Tt q1 (Tt D2 E2)))) h
 refine AV rfl ?_
 have h:=aA h W0
 try dsimp only at h
 refine Ai<|du 7 fun s0 y0=>Rx 0 248 s0 rfl y0 (AK rfl (k0.memA .hd))<|Rv 1 s0 rfl y0 (fun _=>Ah rfl)<|xk h (fun v4 B1 h=>?_) (fun V1 B1 h=>?_)
 refine BS (i:=2) (rk s0) (RO.callE (fst:=[]) (cap:=[]) rfl .plain (bd 64) rfl (e2 rfl rfl) (fun p q=>bO_c n (k0.hL0 hL q)  B1) (fun v5 Q2=>?_))
 obtain ⟨y2,H4⟩:=k0.agr Q2
 cases h
 exact BD hp0 func61 ⟨y2.ag,rfl⟩
 refine RD.cq 2 7 248 (.agg ((ac V1)).toArray) s0 rfl y0 (bd 64) rfl (e2 rfl rfl) (fun p q=>BC (bO_c n (k0.hL0 hL q)  B1)) rfl<|bk h fun b1 H3 h=>RD.cq 3 15 240 (.tuple #[.agg ((ac b1.1)).toArray,vI b1.2]) s0 rfl y0 (bd 66) rfl (e2 rfl rfl) (fun p q=>dE_c n (k0.hL0 hL q) (⟨(z0,A0,B0,C0,D0,E0,F0,G0),(H0,I0,J0,K0,M0,P0,Q0,R0)⟩:Tb) V1 H3) rfl<|Rv 4 s0 rfl y0 (fun _=>Aj rfl rfl)<|Rv 5 s0 rfl y0 (fun _=>Aj rfl rfl)<|xk h (fun x4 C1 h=>?_) (fun E1 C1 h=>?_)
 refine BS (i:=6) (rk s0) (RO.callE (fst:=[]) (cap:=[]) rfl .plain (bd 65) rfl (e2 rfl rfl) (fun p q=>ao_c n (k0.hL0 hL q) b1.1 C1) (fun x5 R2=>?_))
 obtain ⟨z2,I4⟩:=k0.agr R2
 cases h
 exact BD hp0 func61 ⟨z2.ag,rfl⟩
 refine RD.cq 6 127 128 (.agg ((ac E1)).toArray) s0 rfl y0 (bd 65) rfl (e2 rfl rfl) (fun p q=>BC (ao_c n (k0.hL0 hL q) b1.1 C1)) rfl<|BB 7 255 s0 rfl rfl .plain (AD (news:=(ac E1)) k0 .t1 rfl rfl rfl rfl rfl rfl (aq rfl)) fun y5 H1 J4=>AR (dk s0)<|Ak rfl<|Ar hb0 func61 rfl (.cons (.many (cs:=(ac E1)) rfl rfl (H1.memA .t1)) .nil) rfl ?_
 cases h
 exact ⟨H1.ag,fun p q=>aX rfl⟩
def cm_p (n:Nat) (a0:List Ta) (a1:Te) (a2:List Int) (a3:Int):Option (Tb × Int):=
  (aG_p n a0 a1 a2 a3).bind fun c0=>exc c0 (fun d0=>some (d0,(0:Int))) (fun b0=>some ((⟨(0,0,0,0,0,0,0,0),(0,0,0,0,0,0,0,0)⟩:Tb),b0.fF))
theorem cm_c (n:Nat) {L w} (hL:hl L w) {a0:List Ta} {v0_0:Value} (h0_0:Rep.R w L [v0_0] a0) (a1:Te) {v1_3:Value} (h1_3:Rep.R w L [v1_3] a1.fm) {a2:List Int} {v2_0:Value} (h2_0:Rep.R w L [v2_0] a2) {a3:Int} (hG0:Glob 0 tab0 w)  {r:Tb × Int} (h:cm_p n a0 a1 a2 a3 = some r) :
 Cl 23 #[v0_0,.agg #[vI a1.fh,vI a1.fe,vI a1.fj,v1_3],v2_0,vI a3] w (ae w fun _ u=>u = .tuple #[.agg ((ac r.1)).toArray,vI r.2]):=by
 unfold cm_p at h
 refine AF func23 rfl rfl rfl fun _ cs0 hb0=>Ae<|RG.bx (AC w) rfl (Rep.c1 h0_0) fun X1 j0 K0 F1=>RG.bx K0 rfl rfl fun j2 p0 G0 H1=>RG.bx G0 rfl (Rep.c1 (AM h2_0 G0)) fun k2 q0 U0 I1=>RG.bx U0 rfl rfl fun p2 s0 V0 J1=>RG.nl zL V0 fun w32 J0 W0 K1=>Af rfl<|Aa<|Ae<|Ab (FV.makeFunc (vs:=[]) (us:=[vP j0,vP p0,vP q0,vP s0]) am (e4 rfl rfl rfl rfl))<|BH (fst:=[]) (cap:=[]) (vs:=[.func (.func 61) #[] #[vP j0,vP p0,vP q0,vP s0]]) .plain (bd 60) func60 rfl rfl rfl rfl (e1 rfl) rfl fun z1 H0 W1=>Ae<|RG.nl zL W0 fun q2 t0 X0 M1=>RG.nl [vI 0] X0 fun s2 d0 b0 P1=>Aa<|Ae<|Ab (FV.makeFunc (vs:=[]) (us:=[vP t0,vP d0]) am (e2 rfl rfl))<|RG.defer (fst:=[]) (cap:=[vP t0,vP d0]) (vs:=[]) rfl .plain rfl am<|Aa<|Ae ?_
 refine Ac rfl<|xk h (fun v0 B0 h=>?_) (fun g0 B0 h=>?_)
 refine BQ (fst:=[]) (cap:=[vP j0,vP p0,vP q0,vP s0]) .plain (bd 61) rfl am (fun p q=>aG_c n (b0.hL0 hL q) (b0.k0 h0_0 q) (aD q (b0.memA .t6)) a1 (b0.k0 h1_3 q) (aD q (b0.memA .t5)) (b0.k0 h2_0 q) (aD q (b0.memA .t4)) (aD q (b0.memA .t3)) (hG0.keep (b0.ag.trans q)) B0) fun u2 j1=>?_
 obtain ⟨Y0,Q1⟩:=b0.agr j1
 refine PN.callD (vs:=[]) (cap:=[vP t0,vP d0]) (bd 104) func104 rfl rfl rfl fun y1 k1 q1=>Ae<|RG.recover1 .plain k1 rfl<|Af rfl<|Aa<|Ae<|Ac rfl<|Ab (FV.neqI underlying20 rfl rfl)<|Aa<|AZ rfl<|Ae<|Ac rfl<|Ab (FV.assertT rfl rfl)<|Ac rfl<|Ab (Aj rfl rfl)<|Ab (Aj rfl rfl)<|RG.nl [vI 0] Y0 fun v2 u1 Z0 R1=>AX [vI v0.fF] Z0 .hd (o1 rfl) fun x2 b1 U1=>Af rfl<|Aa<|Ai<|Ae<|Ac rfl<|Ab (Bp rfl)<|Aa<|BA rfl<|Ap<|Ae<|RG.nl zL b1 fun y2 v1 u0 V1=>Aa<|du 3 fun c0 C0=>Rx 0 24 c0 rfl C0 (AK rfl (u0.memA .hd))<|Rv 1 c0 rfl C0 (fun _=>Be 0 rfl)<|RD.mo (α:=Unit) (fun ()=>[(1,vP d0),(19,vI v0.fF)]) (fun ()=>[.cells d0 [vI 0] 35,.cells t0 zL 42,.cells J0 zL 42,.cells s0 [vI a3] 3,.cells q0 [v2_0] 53,.cells p0 [vI a1.fh,vI a1.fe,vI a1.fj,v1_3] 58,.cells j0 [v0_0] 30]) u0 1 15 ?_ ?_
 rintro ⟨⟩ z2 M0 A1
 try dsimp only
 refine BB 4 31 c0 rfl rfl .plain (AD (news:=[vI v0.fF]) M0 .hd rfl rfl rfl rfl rfl rfl (o1 rfl)) fun Y1 y0 B1=>AR (dk c0)<|MX.fin rfl<|RT.leaveD1 q1 func104 rfl .nil<|Ar (u:=.tuple #[.agg zM,vI v0.fF]) H0 func60 rfl (.cons (.many (cs:=zL) rfl rfl (y0.memA .t1)) (.cons (.one rfl rfl ((y0.memA .hd) 0 _ rfl)) .nil)) rfl<|Ab (Aj rfl rfl)<|Ab (Aj rfl rfl)<|AX zL y0 .t2 (aq rfl) fun Z1 E0 C1=>Af rfl<|Aa<|Ak rfl<|Ar hb0 func23 rfl (.cons (.many (cs:=zL) rfl rfl (E0.memA .t2)) (.cons (.tmp rfl) .nil)) rfl ?_
 cases h
 exact E0.gv
 intro D0
 refine By [2,3] (rk c0) ⟨?_,?_,trivial⟩
 refine RO.val (m' :=7) (sk c0) rfl .plain rfl (AN rfl ((u0.memA .t1) 0 _ rfl))<|BB 3 15 c0 rfl rfl .plain (AD (news:=zL) u0 .t3 rfl rfl rfl rfl rfl rfl (aq rfl)) fun s1 x0 A0=>?_
 obtain ⟨P0,d1⟩:=AH x0 .d2
 exact D0 () P0 (Tt A0 d1)
 refine RO.now (m' :=11) (sk c0) rfl rfl .plain (AD (news:=zL) u0 .t3 rfl rfl rfl rfl rfl rfl (aq rfl)) fun s1 x0 A0=>Rx 2 16 c0 rfl C0 (AN rfl ((x0.memA .t1) 0 _ rfl)) ?_
 obtain ⟨Q0,g1⟩:=AH x0 .d2
 exact D0 () Q0 (Tt A0 g1)
 refine RG.callq' (v:=.agg ((ac g0)).toArray) (fst:=[]) (cap:=[vP j0,vP p0,vP q0,vP s0]) .plain (bd 61) rfl am (fun p q=>BC (aG_c n (b0.hL0 hL q) (b0.k0 h0_0 q) (aD q (b0.memA .t6)) a1 (b0.k0 h1_3 q) (aD q (b0.memA .t5)) (b0.k0 h2_0 q) (aD q (b0.memA .t4)) (aD q (b0.memA .t3)) (hG0.keep (b0.ag.trans q)) B0)) rfl<|AX (ac g0) b0 .t1 (aq rfl) fun b2 R0 D1=>AX [vI 0] R0 .hd (o1 rfl) fun c2 z0 E1=>Aa<|Ak rfl<|RT.callD (vs:=[]) (cap:=[vP t0,vP d0]) (bd 104) func104 rfl rfl rfl fun x1 I0 p1=>Ae<|RG.recover0 .plain I0 rfl<|Af rfl<|Aa<|Ae<|Ac rfl<|Ab (FV.neqI0 underlying20 rfl rfl)<|Aa<|BA rfl<|Ap<|MX.fin rfl<|RT.leaveD0 I0 p1 func104 rfl .nil<|Ar (u:=.tuple #[.agg ((ac g0)).toArray,vI 0]) H0 func60 rfl (.cons (.many (cs:=(ac g0)) rfl rfl (z0.memA .t1)) (.cons (.one rfl rfl ((z0.memA .hd) 0 _ rfl)) .nil)) rfl<|Ab (Aj rfl rfl)<|Ab (Aj rfl rfl)<|AX (ac g0) z0 .t2 (aq rfl) fun g2 F0 G1=>Af rfl<|Aa<|Ak rfl<|Ar hb0 func23 rfl (.cons (.many (cs:=(ac g0)) rfl rfl (F0.memA .t2)) (.cons (.tmp rfl) .nil)) rfl ?_
 cases h
 exact F0.gv
theorem el69:ElT Tryz.prog 69 75 (Rep.size (List UInt64)) 24 vN [vN]:=⟨underlying69,by kernel_rfl,rfl,rfl,rfl,rfl⟩
def bs_l1 (n:Nat) (a0:List Ta) (a1:Te) (a2:List Int) (a3:Int) (d0:Nat × (List (List UInt64)) -> Option (List (List UInt64))):Nat × (List (List UInt64)) -> Option (List (List UInt64))
  | (b0,c0)=>(if b0 < a0.length then (a0[b0]?).bind fun g0=>(am_p n (⟨a1,a2,a3⟩:Tm) g0).bind fun k0=>(app c0 ([k0]:List (List UInt64))).bind fun j0=>d0 (b0 + 1,j0) else some c0)
def bs_p (n:Nat) (a0:List Ta) (a1:Te) (a2:List Int) (a3:Int):Option ((List (List UInt64)) × Int):=
  (cb_p n a1 a2 a3).bind fun k0=>(aC_p n k0).bind fun p0=>exc p0 (fun _y64=>(a9_p n ((a2.length:Nat):Int) a0).bind fun g0=>(aC_p n g0).bind fun j0=>exc j0 (fun _y1303=>Option.bind (ah (bs_l1 n a0 a1 a2 a3) n (0,([]:List (List UInt64)))) (fun d0=>some (d0,(0:Int)))) (fun b0=>some (([]:List (List UInt64)),b0.fF))) (fun c0=>some (([]:List (List UInt64)),c0.fF))
theorem bs_c (n:Nat) {L w} (hL:hl L w) {a0:List Ta} {v0_0:Value} (h0_0:Rep.R w L [v0_0] a0) (a1:Te) {v1_3:Value} (h1_3:Rep.R w L [v1_3] a1.fm) {a2:List Int} {v2_0:Value} (h2_0:Rep.R w L [v2_0] a2) {a3:Int} (hG0:Glob 0 tab0 w)  {r:(List (List UInt64)) × Int} (h:bs_p n a0 a1 a2 a3 = some r) :
 Cl 24 #[v0_0,.agg #[vI a1.fh,vI a1.fe,vI a1.fj,v1_3],v2_0,vI a3] w (ae w fun w' u=>∃ v0_0:Value,u = .tuple #[v0_0,vI r.2]/\Rep.R w' L [v0_0] r.1):=by
 unfold bs_p at h
 refine AF func24 rfl rfl rfl fun _ cs0 hb0=>Ae<|RG.bx (AC w) rfl rfl fun X4 H0 R0 q4=>Af rfl<|Af rfl<|Aa<|Ae<|Ac rfl<|Ab (AK rfl (R0.memA .hd))<|Ac rfl<|Ac rfl<|BH (fst:=[]) (cap:=[]) (vs:=[v0_0,.agg #[vI a1.fh,vI a1.fe,vI a1.fj,v1_3],v2_0,vI a3,.func (.func 68) #[] #[]]) .plain (bd 67) func67 rfl rfl rfl rfl (e5 rfl rfl rfl rfl rfl) rfl fun c4 Z0 R4=>Ae<|RG.bx R0 rfl (Rep.c1 (AM h0_0 R0)) fun d5 z0 V1 x4=>RG.bx V1 rfl rfl fun g5 u0 x1 B4=>RG.bx x1 rfl (Rep.c1 (AM h2_0 x1)) fun y5 v0 k2 D4=>RG.bx k2 rfl rfl fun z5 x0 p2 E4=>RG.bx p2 rfl rfl fun A5 y0 q2 F4=>?_
 refine Af rfl<|Af rfl<|Aa<|Ae<|Ab (FV.makeFunc (vs:=[]) (us:=[vP u0,vP v0,vP x0,vP z0,vP y0]) am (e5 rfl rfl rfl rfl rfl))<|BH (fst:=[]) (cap:=[]) (vs:=[.func (.func 107) #[] #[vP u0,vP v0,vP x0,vP z0,vP y0]]) .plain (bd 106) func106 rfl rfl rfl rfl (e1 rfl) rfl fun g4 b1 U4=>Ae<|RG.nl [vN] q2 fun B5 p0 s2 G4=>RG.nl [vI 0] s2 fun C5 g0 b0 H4=>Aa<|Ae<|Ab (FV.makeFunc (vs:=[]) (us:=[vP p0,vP g0]) am (e2 rfl rfl))<|RG.defer (fst:=[]) (cap:=[vP p0,vP g0]) (vs:=[]) rfl .plain rfl am<|Aa<|Ae<|Ac rfl<|BH (fst:=[]) (cap:=[vP u0,vP v0,vP x0,vP z0,vP y0]) (vs:=[]) .plain (bd 107) func107 rfl rfl rfl rfl am rfl fun j4 M2 E1=>Ae<|Af rfl<|Aa<|Ae<|Ab (AK rfl (b0.memA .t5))<|AL rfl ((b0.memA .t4) 0 _ rfl)<|AL rfl ((b0.memA .t3) 0 _ rfl)<|bk h fun F3 z3 h=>Bk (vI F3) (bd 95) rfl (e3 rfl rfl rfl) (fun p q=>cb_c n (b0.hL0 hL q) a1 (b0.k0 h1_3 q) (b0.k0 h2_0 q) z3) rfl<|xk h (fun C0 j1 h=>?_) (fun J5 j1 h=>?_)
 refine BQ (fst:=[]) (cap:=[]) .plain (bd 94) rfl (e1 rfl) (fun p q=>aC_c n (b0.hL0 hL q)  j1) fun D5 K2=>?_
 obtain ⟨u2,I4⟩:=b0.agr K2
 refine BD E1 func107<|PN.callD (vs:=[]) (cap:=[vP p0,vP g0]) (bd 147) func147 rfl rfl rfl fun b4 R2 Z2=>Ae<|RG.recover1 .plain R2 rfl<|Af rfl<|Aa<|Ae<|Ac rfl<|Ab (FV.neqI underlying20 rfl rfl)<|Aa<|AZ rfl<|Ae<|Ac rfl<|Ab (FV.assertT rfl rfl)<|Ac rfl<|Ab (Aj rfl rfl)<|Ab (Aj rfl rfl)<|RG.nl [vI 0] u2 fun E5 R3 v2 J4=>AX [vI C0.fF] v2 .hd (o1 rfl) fun F5 M0 K4=>Af rfl<|Aa<|Ai<|Ae<|Ac rfl<|Ab (Bp rfl)<|Aa<|BA rfl<|Ap<|Ae<|Af rfl<|Aa<|du 3 fun s0 p1=>Rv 0 s0 rfl p1 (fun _=>Ah rfl)<|Rv 1 s0 rfl p1 (fun _=>Be 0 rfl)<|RD.mo (α:=Unit) (fun ()=>[(1,vP g0),(19,vI C0.fF)]) (fun ()=>[.cells g0 [vI 0] 35,.cells p0 [vN] 69,.cells y0 [.func (.func 68) #[] #[]] 135,.cells x0 [vI a3] 3,.cells v0 [v2_0] 53,.cells u0 [vI a1.fh,vI a1.fe,vI a1.fj,v1_3] 58,.cells z0 [v0_0] 30,.cells H0 [vI a1.fh,vI a1.fe,vI a1.fj,v1_3] 58]) M0 1 15 ?_ ?_
 rintro ⟨⟩ G5 M1 k4
 try dsimp only
 refine BB 4 31 s0 rfl rfl .plain (AD (news:=[vI C0.fF]) M1 .hd rfl rfl rfl rfl rfl rfl (o1 rfl)) fun Y4 D0 p4=>AR (dk s0)<|MX.fin rfl<|RT.leaveD1 Z2 func147 rfl .nil<|Ar (u:=.tuple #[vN,vI C0.fF]) b1 func106 rfl (.cons (.one rfl rfl ((D0.memA .t1) 0 _ rfl)) (.cons (.one rfl rfl ((D0.memA .hd) 0 _ rfl)) .nil)) rfl<|Ab (Aj rfl rfl)<|Ab (Aj rfl rfl)<|Af rfl<|Af rfl<|Aa<|Ak rfl<|Ar (u:=.tuple #[vN,vI C0.fF]) Z0 func67 rfl (.cons (.tmp rfl) (.cons (.tmp rfl) .nil)) rfl<|Ab (Aj rfl rfl)<|Ab (Aj rfl rfl)<|Af rfl<|Af rfl<|Aa<|Ak rfl ?_
 have d3:=Rep.nilAt (α:=List UInt64) D0 L
 refine Ar hb0 func24 rfl (.cons (.tmp rfl) (.cons (.tmp rfl) .nil)) rfl ?_
 cases h
 exact ⟨D0.ag,fun p q=>⟨vN,rfl,D0.kd d3 q⟩⟩
 intro s1
 refine By [2,3] (rk s0) ⟨?_,?_,trivial⟩
 refine RO.val (m' :=7) (sk s0) rfl .plain rfl (AN rfl ((M0.memA .hd) 0 _ rfl))<|BB 3 15 s0 rfl rfl .plain (AD (news:=[vN]) M0 .t2 rfl rfl rfl rfl rfl rfl (o1 rfl)) fun C3 K0 Y0=>?_
 obtain ⟨P1,x2⟩:=AH K0 .d1
 exact s1 () P1 (Tt Y0 x2)
 refine RO.now (m' :=11) (sk s0) rfl rfl .plain (AD (news:=[vN]) M0 .t2 rfl rfl rfl rfl rfl rfl (o1 rfl)) fun C3 K0 Y0=>Rx 2 16 s0 rfl p1 (AN rfl ((K0.memA .hd) 0 _ rfl)) ?_
 obtain ⟨Q1,y2⟩:=AH K0 .d1
 exact s1 () Q1 (Tt Y0 y2)
 refine Bk (.tuple #[]) (bd 94) rfl (e1 rfl) (fun p q=>BC (aC_c n (b0.hL0 hL q)  j1)) rfl<|Aa<|Ae<|AL rfl ((b0.memA .t4) 0 _ rfl) ?_
 have C1:=AM h2_0 b0
 have P4:a2.length <= 281474976710656:=AS C1
 refine Ab (AW (xs:=a2) underlying53 rfl C1)<|AL rfl ((b0.memA .t6) 0 _ rfl)<|bk h fun E3 x3 h=>Bk (vI E3) (bd 13) rfl (e2 rfl rfl) (fun p q=>a9_c n (b0.hL0 hL q) (b0.k0 h0_0 q) x3) rfl<|xk h (fun B0 g1 h=>?_) (fun I5 g1 h=>?_)
 refine BQ (fst:=[]) (cap:=[]) .plain (bd 94) rfl (e1 rfl) (fun p q=>aC_c n (b0.hL0 hL q)  g1) fun Z4 I2=>?_
 obtain ⟨R1,s4⟩:=b0.agr I2
 refine BD E1 func107<|PN.callD (vs:=[]) (cap:=[vP p0,vP g0]) (bd 147) func147 rfl rfl rfl fun U3 P2 W2=>Ae<|RG.recover1 .plain P2 rfl<|Af rfl<|Aa<|Ae<|Ac rfl<|Ab (FV.neqI underlying20 rfl rfl)<|Aa<|AZ rfl<|Ae<|Ac rfl<|Ab (FV.assertT rfl rfl)<|Ac rfl<|Ab (Aj rfl rfl)<|Ab (Aj rfl rfl)<|RG.nl [vI 0] R1 fun b5 M3 U1 u4=>AX [vI B0.fF] U1 .hd (o1 rfl) fun c5 I0 v4=>Af rfl<|Aa<|Ai<|Ae<|Ac rfl<|Ab (Bp rfl)<|Aa<|BA rfl<|Ap<|Ae<|Af rfl<|Aa<|du 3 fun q0 k1=>Rv 0 q0 rfl k1 (fun _=>Ah rfl)<|Rv 1 q0 rfl k1 (fun _=>Be 0 rfl)<|RD.mo (α:=Unit) (fun ()=>[(1,vP g0),(19,vI B0.fF)]) (fun ()=>[.cells g0 [vI 0] 35,.cells p0 [vN] 69,.cells y0 [.func (.func 68) #[] #[]] 135,.cells x0 [vI a3] 3,.cells v0 [v2_0] 53,.cells u0 [vI a1.fh,vI a1.fe,vI a1.fj,v1_3] 58,.cells z0 [v0_0] 30,.cells H0 [vI a1.fh,vI a1.fe,vI a1.fj,v1_3] 58]) I0 1 15 ?_ ?_
 rintro ⟨⟩ H5 W1 y4
 try dsimp only
 refine BB 4 31 q0 rfl rfl .plain (AD (news:=[vI B0.fF]) W1 .hd rfl rfl rfl rfl rfl rfl (o1 rfl)) fun j5 E0 z4=>AR (dk q0)<|MX.fin rfl<|RT.leaveD1 W2 func147 rfl .nil<|Ar (u:=.tuple #[vN,vI B0.fF]) b1 func106 rfl (.cons (.one rfl rfl ((E0.memA .t1) 0 _ rfl)) (.cons (.one rfl rfl ((E0.memA .hd) 0 _ rfl)) .nil)) rfl<|Ab (Aj rfl rfl)<|Ab (Aj rfl rfl)<|Af rfl<|Af rfl<|Aa<|Ak rfl<|Ar (u:=.tuple #[vN,vI B0.fF]) Z0 func67 rfl (.cons (.tmp rfl) (.cons (.tmp rfl) .nil)) rfl<|Ab (Aj rfl rfl)<|Ab (Aj rfl rfl)<|Af rfl<|Af rfl<|Aa<|Ak rfl ?_
 have g3:=Rep.nilAt (α:=List UInt64) E0 L
 refine Ar hb0 func24 rfl (.cons (.tmp rfl) (.cons (.tmp rfl) .nil)) rfl ?_
 cases h
 exact ⟨E0.ag,fun p q=>⟨vN,rfl,E0.kd g3 q⟩⟩
 intro u1
 refine By [2,3] (rk q0) ⟨?_,?_,trivial⟩
 refine RO.val (m' :=7) (sk q0) rfl .plain rfl (AN rfl ((I0.memA .hd) 0 _ rfl))<|BB 3 15 q0 rfl rfl .plain (AD (news:=[vN]) I0 .t2 rfl rfl rfl rfl rfl rfl (o1 rfl)) fun B3 J0 X0=>?_
 obtain ⟨X1,z2⟩:=AH J0 .d1
 exact u1 () X1 (Tt X0 z2)
 refine RO.now (m' :=11) (sk q0) rfl rfl .plain (AD (news:=[vN]) I0 .t2 rfl rfl rfl rfl rfl rfl (o1 rfl)) fun B3 J0 X0=>Rx 2 16 q0 rfl k1 (AN rfl ((J0.memA .hd) 0 _ rfl)) ?_
 obtain ⟨Y1,A2⟩:=AH J0 .d1
 exact u1 () Y1 (Tt X0 A2)
 refine Bk (.tuple #[]) (bd 94) rfl (e1 rfl) (fun p q=>BC (aC_c n (b0.hL0 hL q)  g1)) rfl<|Aa<|Ai<|Ae<|AL rfl ((b0.memA .t6) 0 _ rfl) ?_
 have D1:=AM h0_0 b0
 have Q4:a0.length <= 281474976710656:=AS D1
 refine Ab (AW (xs:=a0) underlying30 rfl D1)<|Ac rfl<|Aa<|Au ?_
 have U0:=b0.nilRow 75 (Rep.size (List UInt64))
 have A4:=BJ b0 75 (Rep.size (List UInt64))
 have v1:=U0.nilRow 75 (Rep.size (List UInt64))
 have M4:=AB (cs:=[]) (xs:=([]:List (List UInt64))) v1 L (AG _ _)
 obtain ⟨V4,c3,V2⟩:=ao h
 refine MX.lf (α:=Nat × (List (List UInt64)) × Value × (List Value)) (fun ⟨j0,t0,c0,A0⟩=>[(0,vP u0),(1,vP v0),(2,vP x0),(4,vP y0),(5,c0),(18,v0_0),(19,vI ((a0.length:Nat):Int)),(20,vI ((j0:Nat):Int))]) (fun ⟨j0,t0,c0,A0⟩=>[rr w 75 (List UInt64) vN (([]:List (List UInt64)).length) [],rr w 75 (List UInt64) c0 t0.length A0,.cells g0 [vI 0] 35,.cells p0 [vN] 69,.cells y0 [.func (.func 68) #[] #[]] 135,.cells x0 [vI a3] 3,.cells v0 [v2_0] 53,.cells u0 [vI a1.fh,vI a1.fe,vI a1.fj,v1_3] 58,.cells z0 [v0_0] 30,.cells H0 [vI a1.fh,vI a1.fe,vI a1.fj,v1_3] 58]) (fun ⟨j0,t0,c0,A0⟩ H1=>Cells H1 (bl [rr w 75 (List UInt64) vN (([]:List (List UInt64)).length) [],rr w 75 (List UInt64) c0 t0.length A0,.cells g0 [vI 0] 35,.cells p0 [vN] 69,.cells y0 [.func (.func 68) #[] #[]] 135,.cells x0 [vI a3] 3,.cells v0 [v2_0] 53,.cells u0 [vI a1.fh,vI a1.fe,vI a1.fj,v1_3] 58,.cells z0 [v0_0] 30,.cells H0 [vI a1.fh,vI a1.fe,vI a1.fj,v1_3] 58] ++ L) A0 t0) (fun ⟨j0,t0,c0,A0⟩=>(j0,t0)) (0,([]:List (List UInt64)),vN,[]) c3 v1 (Ay (AB (cs:=[]) (xs:=([]:List (List UInt64))) U0 L (AG _ _)) (BJ U0 75 (Rep.size (List UInt64)))) ?_
 rintro K3 ⟨j0,t0,c0,A0⟩ H1 K1 F0 B2 A1 h
 unfold bs_l1 at h
 try dsimp only at h
 refine Ae<|Ab (Bj (i:=j0) (j:=a0.length) rfl rfl)<|Aa<|Ai<|AO rfl h (fun I1 h=>?_) (fun I1 h=>?_)
 refine Ap<|Ai<|Au<|Ae<|bk h fun Q0 u3 h=>?_
 obtain ⟨G3,V3,U2,X2,d4,j3,b3⟩:=Bg (AM h0_0 F0) u3
 obtain rfl:=bw j3
 refine Ab (Bi 3 j0 rfl U2 rfl rfl X2)<|Ab (AK rfl b3)<|RG.nl [.string ⟨#[]⟩,vI 0,vW 0] F0 fun k5 P3 Z1 C2=>AX [.string Q0.ft,vI Q0.fE,vU Q0.fm] Z1 .hd (aq rfl) fun p5 d0 D2=>Aa<|Am<|Ac rfl<|AL rfl ((d0.memA .t5) 0 _ rfl)<|Ab (AK rfl (d0.memA .t8))<|AL rfl ((d0.memA .t7) 0 _ rfl)<|AL rfl ((d0.memA .t6) 0 _ rfl) ?_
 obtain ⟨H3,W3,p3,_⟩:=BI (AM h1_3 d0)
 obtain ⟨I3,X3,q3,_⟩:=BI (AM h2_0 d0)
 refine Ab (AU (vs:=[.agg #[vI a1.fh,vI a1.fe,vI a1.fj,v1_3],v2_0,vI a3]) (u:=.agg #[vI a1.fh,vI a1.fe,vI a1.fj,v1_3,v2_0,vI a3]) (e3 rfl rfl rfl) (fun p=>by rw [p3,q3]; try kernel_rfl))<|Ab (AK rfl (d0.memA .hd))<|bk h fun q1 y3 h=>jE (bd 68) rfl (e2 rfl rfl) (fun p q=>am_c n (d0.hL hL q) (⟨a1,a2,a3⟩:Tm) (d0.km h1_3 q) (d0.km h2_0 q) Q0 (hG0.keep (d0.ag.trans q)) y3) rfl fun q5 P0 J2 ⟨W4,hu_,G1⟩=>?_
 subst hu_
 obtain ⟨b2,E2⟩:=d0.agr J2
 obtain ⟨J3,Y3,s3,_⟩:=BI G1
 refine Ao .plain rfl (AJ (α:=List UInt64) (xs:=([q1]:List (List UInt64))) (vs:=[P0]) (ds' :=[P0]) rfl b2 el69 rfl (e1 rfl) (by rw [s3]; try kernel_rfl) rfl) fun s5 Q3 V0 y1=>bk h fun D3 v3 h=>?_
 have F1:=Tt C2 (Tt D2 (Tt E2 y1))
 refine BR .plain rfl (Bh (α:=List UInt64) (ys:=([q1]:List (List UInt64))) v3 V0 (fun _ _=>.t3) el69 rfl rfl (Ay A1 F1) (BN (α:=List UInt64) V0 .hd (AB (cs:=[P0]) (xs:=(([q1]:List (List UInt64)):List (List UInt64))) V0 L (Ax (cs:=[P0]) (ds:=[]) (Aq G1 y1) (AG _ _))))) fun A3 u5 ⟨J1,c2,F2,Q2⟩=>Af rfl<|Aa<|Aw<|Am<|Ab (Bf (i:=j0) (j:=1) rfl rfl (by omega))<|Ac rfl<|Aa ?_
 obtain ⟨g2,z1⟩:=AH c2 .d2
 exact K1 (j0 + 1,D3,A3,J1) g2 (Tt B2 (Tt F1 (Tt F2 z1))) (Ay Q2 z1) h
 refine AV rfl ?_
 have h:=V2 _ h
 try dsimp only at h
 refine Ae<|Ac rfl<|Af rfl<|Aa<|Ak rfl<|Ar (u:=c0) M2 func107 rfl (.cons (.tmp rfl) .nil) rfl<|RG.now .plain (AD (news:=[c0]) F0 .t3 rfl rfl rfl (St.c1 (α:=List UInt64) F0 .t1) rfl rfl (o1 (St.o1 (α:=List UInt64) F0 .t1))) fun v5 j2 G2=>AX [vI 0] j2 .t2 (o1 rfl) fun x5 G0 H2=>Aa<|Ak rfl<|RT.callD (vs:=[]) (cap:=[vP p0,vP g0]) (bd 147) func147 rfl rfl rfl fun Z3 B1 Y2=>Ae<|RG.recover0 .plain B1 rfl<|Af rfl<|Aa<|Ae<|Ac rfl<|Ab (FV.neqI0 underlying20 rfl rfl)<|Aa<|BA rfl<|Ap<|MX.fin rfl<|RT.leaveD0 B1 Y2 func147 rfl .nil<|Ar (u:=.tuple #[c0,vI 0]) b1 func106 rfl (.cons (.one rfl rfl ((G0.memA .t3) 0 _ rfl)) (.cons (.one rfl rfl ((G0.memA .t2) 0 _ rfl)) .nil)) rfl<|Ab (Aj rfl rfl)<|Ab (Aj rfl rfl)<|Af rfl<|Af rfl<|Aa<|Ak rfl<|Ar (u:=.tuple #[c0,vI 0]) Z0 func67 rfl (.cons (.tmp rfl) (.cons (.tmp rfl) .nil)) rfl<|Ab (Aj rfl rfl)<|Ab (Aj rfl rfl)<|Af rfl<|Af rfl<|Aa<|Ak rfl ?_
 have W0:=Bq G0 .t1
 have C4:=Br G0 .t1
 have k3:=Bs (α:=List UInt64) (v:=c0) (xs:=t0) W0 L (Ba (α:=List UInt64) G0 .t1 (Ay A1 (Tt G2 H2)) hL)
 refine Ar hb0 func24 rfl (.cons (.tmp rfl) (.cons (.tmp rfl) .nil)) rfl ?_
 cases h
 exact ⟨W0.ag,fun p q=>⟨c0,rfl,W0.kd k3 q⟩⟩
def cS_p (n:Nat) (a0:Tm) (a1:Ta):Option Bool:=
  (am_p n a0 a1).bind fun b0=>some (decide (b0.length = 1))
theorem cS_c (n:Nat) {L w} (hL:hl L w) (a0:Tm) {v0_3:Value} (h0_3:Rep.R w L [v0_3] a0.fH.fm) {v0_4:Value} (h0_4:Rep.R w L [v0_4] a0.fplan) (a1:Ta) (hG0:Glob 0 tab0 w)  {r:Bool} (h:cS_p n a0 a1 = some r) :
 Cl 70 #[.agg #[vI a0.fH.fh,vI a0.fH.fe,vI a0.fH.fj,v0_3,v0_4,vI a0.fk],.agg #[.string a1.ft,vI a1.fE,vU a1.fm]] w (ae w fun _ u=>u = .bool r):=by
 unfold cS_p at h
 refine AF func70 rfl rfl rfl fun _ cs0 hb0=>Ae<|RG.bx (AC w) rfl rfl fun A0 q0 g0 t0=>RG.bx g0 rfl rfl fun B0 s0 b0 u0=>Af rfl<|Aa<|Ae<|Ab (AK rfl (b0.memA .t1))<|Ab (AK rfl (b0.memA .hd))<|bk h fun c0 p0 h=>jE (bd 68) rfl (e2 rfl rfl) (fun p q=>am_c n (b0.hL hL q) a0 (b0.km h0_3 q) (b0.km h0_4 q) a1 (hG0.keep (b0.ag.trans q)) p0) rfl fun C0 z0 k0 ⟨y0,hu_,d0⟩=>?_
 subst hu_
 obtain ⟨j0,v0⟩:=b0.agr k0
 have x0:c0.length <= 281474976710656:=AS d0
 refine Ab (AW (xs:=c0) underlying75 rfl d0)<|Ab (BF (i:=c0.length) (j:=1) rfl rfl)<|Af rfl<|Aa<|Ak rfl<|AQ hb0 func70 rfl rfl ?_
 cases h
 exact j0.gv
end Go.Proofs.YtfccehcnajelgaaGreatDoor
