import Derived.Test.YtkommhmbkbhmlaaGreatVX6
namespace Go.Proofs.YtkommhmbkbhmlaaGreat
open Go Go.RowKit Tryz
set_option maxRecDepth 4000
set_option maxHeartbeats 4000000

def bB_l1 (n:Nat) (j0:Lb Ta) (p0:Td) (g0:Nat × (Lb (Tb × Td)) -> Oa (Lb (Tb × Td))):Nat × (Lb (Tb × Td)) -> Oa (Lb (Tb × Td))
  | (c0,b0)=>(if c0 < j0.length then (j0[c0]?).bind fun d0=>(bb_p n d0).bind fun q0=>(av_p n q0 p0).bind fun k0=>dI (br b0 d0.fm) (g0 (c0 + 1,aC b0 d0.fm k0)) (fun s0=>(ab_p n k0 s0).bind fun t0=>g0 (c0 + 1,aC b0 d0.fm t0)) else some b0)
def cX (n:Nat) (c0:Tb × Td) (g0:(Lb Ta) × Bool -> Oa ((Lb Ta) × Int)):(Lb Ta) × Bool -> Oa ((Lb Ta) × Int)
  | (p0,j0)=>(ac_p n c0.2).bind fun d0=>jn (fun k0=>(app p0 ([(⟨c0.1,d0.1⟩:Ta)]:Lb Ta)).bind fun q0=>g0 (q0,k0)) (fun b0=>(if d0.2 = 0 then b0 j0 else b0 true))
def bB_l2 (n:Nat) (a0:Lb (Lb Ta)) (a1:Lb Tb) (d0:Nat × (Lb (Tb × Td)) -> Oa (Lb (Tb × Td))):Nat × (Lb (Tb × Td)) -> Oa (Lb (Tb × Td))
  | (b0,c0)=>(if b0 < a0.length then (a0[b0]?).bind fun k0=>(a1[b0]?).bind fun p0=>(al_p n p0).bind fun g0=>(aY_p n g0.fj).bind fun q0=>(if q0 = 0 then d0 (b0 + 1,c0) else Option.bind (ao (bB_l1 n k0 g0) n (0,c0)) (fun j0=>d0 (b0 + 1,j0))) else some c0)
def bB_l3 (n:Nat) (a1:Lb Tb) (p0:Nat × Bool × (Lb Ua) × Bool × (Lb Ua) -> Oa (Bool × (Lb Ua) × Bool × (Lb Ua))):Nat × Bool × (Lb Ua) × Bool × (Lb Ua) -> Oa (Bool × (Lb Ua) × Bool × (Lb Ua))
  | (c0,d0,j0,g0,k0)=>(if c0 < a1.length then (a1[c0]?).bind fun q0=>(al_p n q0).bind fun s0=>(ab_p n (⟨(⟨d0,j0⟩:Tf),(⟨g0,k0⟩:Tf)⟩:Td) s0).bind fun b0=>p0 (c0 + 1,b0.fj.fc,b0.fj.fk,b0.fh.fc,b0.fh.fk) else some (d0,j0,g0,k0))
def bB_l4 (n:Nat) (j0:Lb Ta) (p0:Td) (g0:Nat × (Lb (Tb × Td)) -> Oa (Lb (Tb × Td))):Nat × (Lb (Tb × Td)) -> Oa (Lb (Tb × Td))
  | (c0,b0)=>(if c0 < j0.length then (j0[c0]?).bind fun d0=>(bb_p n d0).bind fun q0=>(av_p n q0 p0).bind fun k0=>dI (br b0 d0.fm) (g0 (c0 + 1,aC b0 d0.fm k0)) (fun s0=>(ab_p n k0 s0).bind fun t0=>g0 (c0 + 1,aC b0 d0.fm t0)) else some b0)
def cW (n:Nat) (c0:Tb × Td) (g0:(Lb Ta) × Bool -> Oa ((Lb Ta) × Int)):(Lb Ta) × Bool -> Oa ((Lb Ta) × Int)
  | (p0,j0)=>(ac_p n c0.2).bind fun d0=>jn (fun k0=>(app p0 ([(⟨c0.1,d0.1⟩:Ta)]:Lb Ta)).bind fun q0=>g0 (q0,k0)) (fun b0=>(if d0.2 = 0 then b0 j0 else b0 true))
def bB_l5 (n:Nat) (a0:Lb (Lb Ta)) (a1:Lb Tb) (d0:Nat × (Lb (Tb × Td)) -> Oa (Lb (Tb × Td))):Nat × (Lb (Tb × Td)) -> Oa (Lb (Tb × Td))
  | (b0,c0)=>(if b0 < a0.length then (a0[b0]?).bind fun k0=>(a1[b0]?).bind fun p0=>(al_p n p0).bind fun g0=>(aY_p n g0.fj).bind fun q0=>(if q0 = 0 then d0 (b0 + 1,c0) else Option.bind (ao (bB_l4 n k0 g0) n (0,c0)) (fun j0=>d0 (b0 + 1,j0))) else some c0)
def bB_l6 (n:Nat) (a1:Lb Tb) (p0:Nat × Bool × (Lb Ua) × Bool × (Lb Ua) -> Oa (Bool × (Lb Ua) × Bool × (Lb Ua))):Nat × Bool × (Lb Ua) × Bool × (Lb Ua) -> Oa (Bool × (Lb Ua) × Bool × (Lb Ua))
  | (c0,d0,j0,g0,k0)=>(if c0 < a1.length then (a1[c0]?).bind fun q0=>(al_p n q0).bind fun s0=>(ab_p n (⟨(⟨d0,j0⟩:Tf),(⟨g0,k0⟩:Tf)⟩:Td) s0).bind fun b0=>p0 (c0 + 1,b0.fj.fc,b0.fj.fk,b0.fh.fc,b0.fh.fk) else some (d0,j0,g0,k0))
def bB_l7 (n:Nat) (a1:Lb Tb) (a0:Lb (Lb Ta)) (g0:Nat -> Oa (((Lb Ta) × Int) ⊕ Unit)):Nat -> Oa (((Lb Ta) × Int) ⊕ Unit)
  | i32=>(if i32 < a1.length then (a1[i32]?).bind fun q0=>(cY_p n q0).bind fun z0=>(if z0 = true then ((if 0 <= i32 then some (([]:Lb Ta),(2:Int)) else (aI_p n (0:Int)).bind fun b0=>Option.bind (ao (bB_l3 n a1) n (0,b0.fj.fc,b0.fj.fk,b0.fh.fc,b0.fh.fk)) (fun (k0,t0,p0,u0)=>(aI_p n (1:Int)).bind fun x0=>(aK_p n (⟨(⟨k0,t0⟩:Tf),(⟨p0,u0⟩:Tf)⟩:Td) x0).bind fun y0=>(if y0 = 0 then Option.bind (ao (bB_l2 n a0 a1) n (0,([]:Lb (Tb × Td)))) (fun c0=>(if 400 < c0.length then some (([]:Lb Ta),(3:Int)) else mloop (fun (d0,j0)=>(if j0 = true then some (([]:Lb Ta),(6:Int)) else (bq_p n (ac ((d0.length:Nat):Int))).bind fun v0=>(dK (fun x9 y9=>ah_p n x9 y9) v0 d0).bind fun s0=>some (s0,(0:Int)))) (cX n) n c0 (([]:Lb Ta),false))) else some (([]:Lb Ta),(2:Int)))))).map .inl else g0 (i32 + 1)) else some (.inr ()))
def bB_p (n:Nat) (a0:Lb (Lb Ta)) (a1:Lb Tb):Oa ((Lb Ta) × Int):=
  (if 40 < a0.length then some (([]:Lb Ta),(3:Int)) else (if 40 < a1.length then some (([]:Lb Ta),(3:Int)) else (au_p n a0 a1).bind fun y7=>(if y7 = 0 then (if a0.length = a1.length then thn (ao (bB_l7 n a1 a0) n 0) (fun _=>(if 0 <= (-1) then some (([]:Lb Ta),(2:Int)) else (aI_p n (0:Int)).bind fun b0=>Option.bind (ao (bB_l6 n a1) n (0,b0.fj.fc,b0.fj.fk,b0.fh.fc,b0.fh.fk)) (fun (g0,p0,j0,q0)=>(aI_p n (1:Int)).bind fun t0=>(aK_p n (⟨(⟨g0,p0⟩:Tf),(⟨j0,q0⟩:Tf)⟩:Td) t0).bind fun u0=>(if u0 = 0 then Option.bind (ao (bB_l5 n a0 a1) n (0,([]:Lb (Tb × Td)))) (fun c0=>(if 400 < c0.length then some (([]:Lb Ta),(3:Int)) else mloop (fun (d0,k0)=>(if k0 = true then some (([]:Lb Ta),(6:Int)) else (bq_p n (ac ((d0.length:Nat):Int))).bind fun v0=>(dK (fun x9 y9=>ah_p n x9 y9) v0 d0).bind fun s0=>some (s0,(0:Int)))) (cW n) n c0 (([]:Lb Ta),false))) else some (([]:Lb Ta),(2:Int)))))) else some (([]:Lb Ta),(2:Int))) else some (([]:Lb Ta),y7))))
theorem bB_c (n:Nat) {L w} (hL:hl L w) {a0:Lb (Lb Ta)} {v0_0:Vc} (h0_0:Rep.R w L [v0_0] a0) {a1:Lb Tb} {v1_0:Vc} (h1_0:Rep.R w L [v1_0] a1)  {r:(Lb Ta) × Int} (h:bB_p n a0 a1 = some r) :
 Cl 31 #[v0_0,v1_0] w (aj w fun w' u=>∃ v0_0:Vc,u = .tuple #[v0_0,vI r.2]/\Rep.R w' L [v0_0] r.1):=by
 unfold bB_p at h
 have hS0:=AK w
 refine AL func31 I I I fun _ cs0 hb0=>Ae<|Ag I<|Ag I<|Aa<|Aj<|Ae<|Ac I ?_
 have hl1:=AX h0_0
 refine Ab (AY (xs:=a0) underlying57 I h0_0)<|Ab (FV.gtrN (i:=a0.length) (j:=40) I I)<|Ac I<|RG.ifd (s:=16) I h (fun c2 h=>?_) (fun c2 h=>?_)
 refine Ap<|Ap<|Ap<|Br I I<|Aa<|AE I<|Ae<|Ag I<|Ag I<|Aa<|Ar I ?_
 have hr3:=Bm (α:=Ta) hS0 L
 refine Au hb0 func31 I (.cons (.tmp I) (.cons (.tmp I) .nil)) I ?_
 cases h
 exact ⟨hS0.ag,fun w9 hw9=>⟨vN,I,hS0.kd hr3 hw9⟩⟩
 refine AM (Al I) ?_
 have hl4:=AX h1_0
 refine AM (AY (xs:=a1) underlying51 I h1_0)<|AM (FV.gtrN (i:=a1.length) (j:=40) I I)<|Bs I I<|Aa<|AW I h (fun c5 h=>?_) (fun c5 h=>?_)
 refine Ae<|Ag I<|Ag I<|Aa<|Ar I ?_
 have hr6:=Bm (α:=Ta) hS0 L
 refine Au hb0 func31 I (.cons (.tmp I) (.cons (.tmp I) .nil)) I ?_
 cases h
 exact ⟨hS0.ag,fun w9 hw9=>⟨vN,I,hS0.kd hr6 hw9⟩⟩
 refine Aq<|Aj<|Ae<|Ac I<|Ac I<|bk h fun y7 hy7 h=>Bj (vI y7) (bd 63) I (e2 I I) (fun w9 hw9=>au_c n (hS0.hL0 hL hw9) (hS0.kd h0_0 hw9) (hS0.kd h1_0 hw9) hy7) I<|Ag I<|Aa<|Ae<|Ac I<|Ab (BB (i:=y7) (j:=0) I I)<|Aa<|BI I h (fun c8 h=>?_) (fun c8 h=>?_)
 refine Aq<|Aj<|Ae<|Ac I<|Ab (AY (xs:=a0) underlying57 I h0_0)<|Ac I<|Ab (AY (xs:=a1) underlying51 I h1_0)<|Ab (FV.neqN (i:=a0.length) (j:=a1.length) I I)<|Ac I<|RG.ifn (s:=32) I h (fun c9 h=>?_) (fun c9 h=>?_)
 refine AM (Al I)<|BD (fst:=[]) (cap:=[]) (vs:=[v1_0,.func (.func 94) #[] #[]]) (.yes I I) (bd 93) func93 I I I I (e2 I I) I fun J09 c7 K0a=>Ae<|Ag I<|Aa<|Ae<|Ac I<|Ac I<|BD (fst:=[]) (cap:=[]) (vs:=[v1_0,.func (.func 94) #[] #[]]) .plain (bd 146) func146 I I I I (e2 I I) I fun P09 d7 M0a=>Ae<|Ag I<|Aa<|Aj<|Ae<|Ac I<|Ab (AY (xs:=a1) underlying51 I h1_0)<|Ac I<|Aa<|Av<|tn h fun o38 v05 q7=>MX.lo (α:=Nat) (fun i32=>[(0,v1_0),(1,.func (.func 94) #[] #[]),(7,vn a1.length),(8,vn i32)]) (fun i32=>[]) (fun i32=>i32) 0 v05 hS0 ?_
 rintro J40 i32 t0e d00 W0 K02 h
 unfold bB_l7 at h
 try dsimp only at h
 refine Ae<|Ab (AU (i:=i32) (j:=a1.length) I I)<|Aa<|Aj<|AW I h (fun R9 h=>?_) (fun R9 h=>?_)
 refine Aq<|Aj<|Av<|Ae<|Ac I<|Ag I<|Aa<|Ae<|Ac I<|Ac I<|Ac I<|bk h fun x43 I06 h=>?_
 obtain ⟨A44,c45,j04,G04,t0a,y06,b05⟩:=Be (AG h1_0 W0) I06
 obtain rfl:=dp y06
 refine Ab (Bf 16 i32 I j04 I I G04)<|Ab (AA I b05)<|bk h fun y52 A07 h=>Bj (.bool y52) (bd 94) I (e1 I) (fun w9 hw9=>cY_c n (W0.hL0 hL hw9) x43 A07) I<|Aa<|MX.ifb I h (fun U9 h=>?_) (fun U9 h=>?_)
 refine Ae<|Ac I<|Ag I<|Aa ?_
 have h:=gO h q7
 refine Ar I<|Au (u:=vn i32) d7 func146 I (.cons (.tmp I) .nil) I<|Ab (FV.geqN (i:=i32) (j:=0) I I)<|Ag I<|Aa<|Ar I<|Au (u:=.bool (decide (0 <= i32))) c7 func93 I (.cons (.tmp I) .nil) I<|Bs I I<|Ac I<|RG.ifd (s:=36) I h (fun V9 h=>?_) (fun V9 h=>?_)
 refine Ap<|Ap<|Ap<|Ap<|Ap<|Br I I<|Aa<|AE I<|Ae<|Ag I<|Ag I<|Aa<|Ar I ?_
 have z06:=Bm (α:=Ta) W0 L
 refine Au hb0 func31 I (.cons (.tmp I) (.cons (.tmp I) .nil)) I ?_
 cases h
 exact ⟨W0.ag,fun w9 hw9=>⟨vN,I,W0.kd z06 hw9⟩⟩
 refine AM (Al I)<|BD (fst:=[]) (cap:=[]) (vs:=[v1_0,.func (.func 68) #[] #[]]) (.yes I I) (bd 95) func95 I I I I (e2 I I) I fun u0a K03 Y0a=>Ae<|RG.nl [.bool false,vN,.bool false,vN] W0 fun w60 I2 b6 E0a=>Aa<|Ae<|bk h fun u2 B07 h=>jE (bd 71) I (e1 I) (fun w9 hw9=>aI_c n (b6.hL hL hw9)  B07) I fun w65 X0b G03 ⟨Q8,R8,hu_,B8,C8⟩=>?_
 subst hu_
 obtain ⟨P01,F0a⟩:=b6.agr G03
 refine RG.nl [.bool false,vN,.bool false,vN] P01 fun w75 J2 Q01 g3=>AT [.bool u2.fj.fc,Q8,.bool u2.fh.fc,R8] Q01 .hd (o4 I (Az (Af B8 g3)) I (Az (Af C8 g3))) fun w81 c6 b7=>Aa<|Aj<|Ae<|Ac I<|Ab (AY (xs:=a1) underlying51 I (AG h1_0 c6))<|Ac I<|Aa<|Av ?_
 obtain ⟨c0b,q05,q04⟩:=am h
 refine BR (α:=Nat × Bool × (Lb Ua) × Bool × (Lb Ua) × Vc × Vc) (fun ⟨p1,B0,K1,C0,M1,X0,Y0⟩=>[(1,.func (.func 68) #[] #[]),(4,vP I2),(5,vP J2),(9,v1_0),(10,vn a1.length),(11,vn p1)]) (fun ⟨p1,B0,K1,C0,M1,X0,Y0⟩=>[.cells J2 [.bool B0,X0,.bool C0,Y0] 109,.cells I2 [.bool false,vN,.bool false,vN] 109]) (fun ⟨p1,B0,K1,C0,M1,X0,Y0⟩ g5=>Rep.R g5 (bl [.cells J2 [.bool B0,X0,.bool C0,Y0] 109,.cells I2 [.bool false,vN,.bool false,vN] 109] ++ L) [X0] K1/\Rep.R g5 (bl [.cells J2 [.bool B0,X0,.bool C0,Y0] 109,.cells I2 [.bool false,vN,.bool false,vN] 109] ++ L) [Y0] M1) (fun ⟨p1,B0,K1,C0,M1,X0,Y0⟩=>(p1,B0,K1,C0,M1)) (0,u2.fj.fc,u2.fj.fk,u2.fh.fc,u2.fh.fk,Q8,R8) q05 c6 ⟨(Af B8 (Tt g3 b7)),(Af C8 (Tt g3 b7))⟩ ?_
 rintro M08 ⟨p1,B0,K1,C0,M1,X0,Y0⟩ g5 Z9 P2 v02 ⟨P4,Q4⟩ h
 unfold bB_l3 at h
 try dsimp only at h
 refine Ae<|Ab (AU (i:=p1) (j:=a1.length) I I)<|Aa<|Aj<|AW I h (fun E9 h=>?_) (fun E9 h=>?_)
 refine Aq<|Aj<|Av<|Ae<|bk h fun Z8 E06 h=>?_
 obtain ⟨B08,D09,Z03,C04,b0a,V05,V04⟩:=Be (AG h1_0 P2) E06
 obtain rfl:=dp V05
 refine Ab (Bf 16 p1 I Z03 I I C04)<|Ab (AA I V04)<|RG.nl zL P2 fun g0d k09 Y00 D02=>AT (ab Z8) Y00 .hd (ai I) fun j0d U2 E02=>Aa<|du 5 fun W1 Z4=>Rx 0 48 W1 I Z4 (AA I (U2.memA .t1))<|Rv 1 W1 I Z4 (fun _=>Al I)<|Rx 2 56 W1 I Z4 (AA I (U2.memA .hd))<|bk h fun q08 j07 h=>AZ 3 15 W1 I .plain (bd 68) I (e1 I) (fun w9 hw9=>al_c n (U2.hL hL hw9) Z8 j07) I fun k0d M0b z03 ⟨x0b,y0b,hu_,W05,X05⟩=>?_
 subst hu_
 obtain ⟨Q5,F02⟩:=U2.agr z03
 refine bk h fun s2 k07 h=>?_
 have J4:=Tt D02 (Tt E02 F02)
 refine AZ 4 31 W1 I .plain (bd 81) I (e2 I I) (fun w9 hw9=>ab_c n (Q5.hL hL hw9) (⟨(⟨B0,K1⟩:Tf),(⟨C0,M1⟩:Tf)⟩:Td) (Ah (Af P4 J4) hw9) (Ah (Af Q4 J4) hw9) q08 (Ah W05 hw9) (Ah X05 hw9) k07) I fun p0d P0b A03 ⟨M8,P8,hu_,j8,k8⟩=>?_
 subst hu_
 obtain ⟨Z00,G02⟩:=Q5.agr A03
 refine BC 5 63 W1 I I .plain (AD (news:=[.bool s2.fj.fc,M8,.bool s2.fh.fc,P8]) Z00 .t1 I I I I I I (o4 I (Az j8) I (Az k8))) fun q0d b01 x4=>AN (dk W1)<|Aw<|Am<|Ab (Bc (i:=p1) (j:=1) I I (by omega))<|Ac I<|Aa ?_
 obtain ⟨c01,y4⟩:=AB b01 .d1
 exact Z9 (p1 + 1,s2.fj.fc,s2.fj.fk,s2.fh.fc,s2.fh.fk,M8,P8) c01 (Tt v02 (Tt J4 (Tt G02 (Tt x4 y4)))) ⟨(Af j8 (Tt x4 y4)),(Af k8 (Tt x4 y4))⟩ h
 refine Ba I ?_
 have h:=q04 _ h
 try dsimp only at h
 refine Ae<|Ab (AA I (P2.memA .hd))<|AT [.bool B0,X0,.bool C0,Y0] P2 .t1 (o4 I (Az P4) I (Az Q4)) fun s0d Y3 F6=>Aa<|Ar I<|Au (u:=.agg #[.bool B0,X0,.bool C0,Y0]) K03 func95 I (.cons (.many (cs:=[.bool B0,X0,.bool C0,Y0]) I I (Y3.memA .t1)) .nil) I<|bk h fun s08 p07 h=>Ay (fst:=[]) (cap:=[]) (.yes I I) (bd 71) I (e1 I) (fun w9 hw9=>aI_c n (Y3.hL hL hw9)  p07) I fun t0d Q0b B03 ⟨z0b,A0b,hu_,Y05,Z05⟩=>?_
 subst hu_
 obtain ⟨x1,G6⟩:=Y3.agr B03
 refine bk h fun p9 q07 h=>BG (v:=vI p9) (fst:=[]) (cap:=[]) (.yes I I) (bd 69) I (e2 I I) (fun w9 hw9=>aK_c n (x1.hL0 hL hw9) (⟨(⟨B0,K1⟩:Tf),(⟨C0,M1⟩:Tf)⟩:Td) (x1.kd (Af P4 (Tt F6 G6)) hw9) (x1.kd (Af Q4 (Tt F6 G6)) hw9) s08 (x1.kd Y05 hw9) (x1.kd Z05 hw9) q07) I<|AM (BB (i:=p9) (j:=0) I I)<|Bs I I<|Aa<|BI I h (fun H9 h=>?_) (fun H9 h=>?_)
 refine Aq<|Ae<|Ao .plain I (Does.makeMap (κ:=Tb) (ν:=Lb Vc) x1) fun u0d c0 R5 B0a=>Ab (AS (vs:=[.map (some c0)]) (u:=.agg #[.map (some c0),.bool false]) (e1 I) (fun w9=>by kernel_rfl))<|RG.bx R5 I I fun v0d v0 U5 H02=>Ag I<|Aa<|Aj<|Ae<|Ac I<|Ab (AY (xs:=a0) underlying57 I (AG h0_0 U5))<|Ac I<|Aa<|Av ?_
 obtain ⟨g00,R01⟩:=AB U5 (.a0 (.a0 .done))
 obtain ⟨Z0a,k05,k04⟩:=am h
 refine BR (α:=Nat × (Lb (Tb × Td)) × (Lb (Tb × Lb Vc))) (fun ⟨x0,c1,d0⟩=>[(1,v1_0),(7,vP v0),(46,v0_0),(47,vn a0.length),(48,vn x0)]) (fun ⟨x0,c1,d0⟩=>[.cells v0 [.map (some c0),.bool false] 126,.obj c0 (ay d0)]) (fun ⟨x0,c1,d0⟩ U8=>MR U8 (bl [.cells v0 [.map (some c0),.bool false] 126,.obj c0 (ay d0)] ++ L) d0 c1) (fun ⟨x0,c1,d0⟩=>(x0,c1)) (0,([]:Lb (Tb × Td)),([]:Lb (Tb × Lb Vc))) k05 g00 (BM (MR.at_ (Z:=([]:Lb (Tb × Lb Vc))) (M:=([]:Lb (Tb × Td))) R5 L trivial) (Tt H02 R01)) ?_
 rintro H08 ⟨x0,c1,d0⟩ U8 x5 U0 d6 p3 h
 unfold bB_l2 at h
 try dsimp only at h
 refine Ae<|Ab (AU (i:=x0) (j:=a0.length) I I)<|Aa<|Aj<|AW I h (fun t9 h=>?_) (fun t9 h=>?_)
 refine Aq<|Aj<|Av<|Ae<|Ac I<|bk h fun I3 A06 h=>?_
 obtain ⟨v08,y09,U03,y04,K09,z05,M04⟩:=Be (AG h0_0 U0) A06
 obtain ⟨E07,rfl,K7⟩:=dz z05
 refine Ab (Bf 1 x0 I U03 I I y04)<|Bd I (M04 0 _ I)<|Ag I<|Ag I<|Aa<|Ae<|Ac I<|Ac I<|bk h fun Z07 B06 h=>?_
 obtain ⟨x08,z09,V03,z04,M09,A05,P04⟩:=Be (AG h1_0 U0) B06
 obtain rfl:=dp A05
 refine Ab (Bf 16 x0 I V03 I I z04)<|Ab (AA I P04)<|bk h fun C1 Q06 h=>jE (bd 68) I (e1 I) (fun w9 hw9=>al_c n (U0.hL hL hw9) Z07 Q06) I fun Y0b D0b p03 ⟨v3,b5,hu_,M4,M7⟩=>?_
 subst hu_
 obtain ⟨j00,g6⟩:=U0.agr p03
 refine RG.nl [.bool false,vN,.bool false,vN] j00 fun Z0b K3 k00 Z1=>AT [.bool C1.fj.fc,v3,.bool C1.fh.fc,b5] k00 .hd (o4 I (Az (Af M4 Z1)) I (Az (Af M7 Z1))) fun b0c v2 X2=>Aa<|Aj<|Ae<|Bk 0 I<|Ab (AQ (cs:=[.bool C1.fj.fc,v3]) I I (ae (v2.memA .hd) 0 2))<|bk h fun g9 R06 h=>Bj (vI g9) (bd 67) I (e1 I) (fun w9 hw9=>aY_c n (v2.hL0 hL hw9) C1.fj (v2.kd (Af M4 (Tt Z1 X2)) hw9) R06) I<|Ab (FV.eql (i:=g9) (j:=0) I I)<|Aa<|AW I h (fun u9 h=>?_) (fun u9 h=>?_)
 refine Ba I<|Am<|Ab (Bc (i:=x0) (j:=1) I I (by omega))<|Ac I<|Aa ?_
 obtain ⟨p00,U01⟩:=AB v2 .d1
 have u7:=Tt g6 (Tt Z1 (Tt X2 U01))
 exact x5 (x0 + 1,c1,d0) p00 (Tt d6 u7) (BM p3 u7) h
 refine Aq<|Ae<|Ac I ?_
 have j3:=Tt g6 (Tt Z1 X2)
 have s7:=Af K7 j3
 have G0a:=AX s7
 refine Ab (AY (xs:=I3) underlying24 I s7)<|Ac I<|Aa<|Av ?_
 obtain ⟨b0b,p05,p04⟩:=am h
 refine BR (α:=Nat × (Lb (Tb × Td)) × (Lb (Tb × Lb Vc))) (fun ⟨J0,s1,j1⟩=>[(1,v1_0),(7,vP v0),(46,v0_0),(47,vn a0.length),(48,vn x0),(10,vP K3),(62,E07),(63,vn I3.length),(64,vn J0)]) (fun ⟨J0,s1,j1⟩=>[.cells K3 [.bool C1.fj.fc,v3,.bool C1.fh.fc,b5] 109,.cells v0 [.map (some c0),.bool false] 126,.obj c0 (ay j1)]) (fun ⟨J0,s1,j1⟩ V8=>MR V8 (bl [.cells K3 [.bool C1.fj.fc,v3,.bool C1.fh.fc,b5] 109,.cells v0 [.map (some c0),.bool false] 126,.obj c0 (ay j1)] ++ L) j1 s1) (fun ⟨J0,s1,j1⟩=>(J0,s1)) (0,c1,d0) p05 v2 (BM p3 j3) ?_
 rintro I08 ⟨J0,s1,j1⟩ V8 y5 D5 C2 q3 h
 unfold bB_l1 at h
 try dsimp only at h
 refine Ae<|Ab (AU (i:=J0) (j:=I3.length) I I)<|Aa<|Aj<|AW I h (fun v9 h=>?_) (fun v9 h=>?_)
 refine Aq<|Aj<|Av<|Ae<|bk h fun p0 C06 h=>?_
 obtain ⟨y08,A09,W03,A04,Q09,B05,Q04⟩:=Be (Af K7 (Tt j3 C2)) C06
 obtain rfl:=aF B05
 refine Ab (Bf 32 J0 I W03 I I A04)<|Ab (AA I Q04)<|RG.nl [vW 0,vW 0,vW 0,vW 0,vW 0,vW 0,vW 0,vW 0,vW 0,vW 0,vW 0,vW 0,vW 0,vW 0,vW 0,vW 0,vW 0,vW 0,vW 0,vW 0,vW 0,vW 0,vW 0,vW 0,vW 0,vW 0,vW 0,vW 0,vW 0,vW 0,vW 0,vW 0] D5 fun c0c X08 q00 j6=>AT (av p0) q00 .hd (ai I) fun d0c X1 k6=>Aa<|du 10 fun z0 I1=>Rv 0 z0 I I1 (fun _=>Al I)<|Rv 1 z0 I I1 (fun _=>Bu I)<|Rv 2 z0 I I1 (fun _=>Bh 0 I)<|Rx 3 1024 z0 I I1 (Bn I ((X1.memA .t2) 0 _ I))<|Rv 4 z0 I I1 (fun _=>Bh 0 I)<|Rx 5 1024 z0 I I1 (AQ (cs:=(ab p0.fm)) I I (ae (X1.memA .hd) 0 16))<|Rx 6 1664 z0 I I1 (AA I (X1.memA .hd))<|Rx 8 1536 z0 I I1 (AA I (X1.memA .t1))<|bk h fun j08 U06 h=>AZ 7 511 z0 I .plain (bd 66) I (e1 I) (fun w9 hw9=>bb_c n (X1.hL hL hw9) p0 U06) I fun g0c E0b q03 ⟨p0b,q0b,hu_,C05,D05⟩=>?_
 subst hu_
 obtain ⟨E5,p6⟩:=X1.agr q03
 refine bk h fun H0 V06 h=>?_
 have v7:=Tt Z1 (Tt X2 (Tt C2 (Tt j6 (Tt k6 p6))))
 refine AZ 9 1023 z0 I .plain (bd 80) I (e2 I I) (fun w9 hw9=>av_c n (E5.hL hL hw9) j08 (Ah C05 hw9) (Ah D05 hw9) C1 (Ah (Af M4 v7) hw9) (Ah (Af M7 v7) hw9) V06) I fun j0c F0b s03 ⟨x3,y3,hu_,P7,Q7⟩=>?_
 subst hu_
 obtain ⟨s00,V01⟩:=E5.agr s03
 refine BJ (i:=10) (rk z0) (RO.enterPT (m' :=2047) (fst:=[]) (cap:=[]) (vs:=[.map (some c0),.agg ((ab p0.fm)).toArray,.agg #[.bool H0.fj.fc,x3,.bool H0.fh.fc,y3]]) (sk z0) I I .plain (bd 88) func88 I I I I (e3 I I I) I (fun _ R09 g7 P0a=>?_))
 refine Ae<|RG.bx s00 I I fun k0c Y08 t00 p4=>RG.bx t00 I I fun p0c Z08 x2 q4=>Aa<|Aj<|Ae<|Ac I<|Ab (AA I (x2.memA .t1)) ?_
 have H4:=Tt j6 (Tt k6 (Tt p6 (Tt V01 (Tt p4 q4))))
 have R04:=BM q3 H4
 rcases MR.get p0.fm R04 with ⟨F4,W4⟩ | ⟨U09,k5,W4,F4,E05⟩
 have h:=cQ h F4
 refine Ab (FV.lookupK (kv:=p0.fm) (q:=false) ar x2 .t5 underlying124 (z:=.agg #[.bool false,vN,.bool false,vN]) I I I (.inl ⟨W4,I,I⟩))<|Ac I<|Ab (Ai I I)<|Ab (Ai I I)<|RG.nl [.bool false,vN,.bool false,vN] x2 fun q0c b09 u00 q6=>AT [.bool false,vN,.bool false,vN] u00 .hd (ai I) fun s0c P3 s6=>Ag I<|Aa<|Ae<|Ac I<|Aa<|Bv I<|Aq<|Am<|Ac I<|Ab (AA I (P3.memA .t2))<|Ab (AA I (P3.memA .t1)) ?_
 have x7:=Tt H4 (Tt q6 s6)
 have z7:=Tt p4 (Tt q4 (Tt q6 s6))
 refine RG.now .plain (BK (kv:=p0.fm) (vv:=[.bool H0.fj.fc,x3,.bool H0.fh.fc,y3]) ar P3 .t6 underlying124 I I I) fun t0c v00 u6=>Aa<|MX.fin I<|Au (u:=.tuple #[]) g7 func88 I .nil I<|AN (dk z0)<|Aw<|Am<|Ab (Bc (i:=J0) (j:=1) I I (by omega))<|Ac I<|Aa ?_
 obtain ⟨x00,v6⟩:=AB v00 .d4
 exact y5 (J0 + 1,aC s1 p0.fm H0,(aC j1 p0.fm [.bool H0.fj.fc,x3,.bool H0.fh.fc,y3])) x00 (Tt C2 (Tt x7 (Tt u6 v6))) (BM (MR.set (k:=p0.fm) (c:=[.bool H0.fj.fc,x3,.bool H0.fh.fc,y3]) (y:=H0) (ck H0.fj (Af P7 z7) H0.fh (Af Q7 z7)) (BM q3 x7)) (Tt u6 v6)) h
 have h:=cN h F4
 obtain ⟨F07,G07,rfl,R7,U7⟩:=cF E05
 refine Ab (FV.lookupK (kv:=p0.fm) (q:=true) ar x2 .t5 underlying124 (z:=.agg #[.bool false,vN,.bool false,vN]) I I I (.inr ⟨_,W4,I,I⟩))<|Ac I<|Ab (Ai I I)<|Ab (Ai I I)<|RG.nl [.bool false,vN,.bool false,vN] x2 fun u0c c09 y00 b2=>AT [.bool k5.fj.fc,F07,.bool k5.fh.fc,G07] y00 .hd (o4 I (Az (Af R7 b2)) I (Az (Af U7 b2))) fun v0c K2 Y2=>Ag I<|Aa<|Ae<|Ac I<|Aa<|AE I<|Am<|Ab (AA I (K2.memA .t1))<|Ab (AA I (K2.memA .hd))<|bk h fun Q0 W06 h=>?_
 have A7:=Tt p4 (Tt q4 (Tt b2 Y2))
 refine jE (bd 81) I (e2 I I) (fun w9 hw9=>ab_c n (K2.hL hL hw9) H0 (Ah (Af P7 A7) hw9) (Ah (Af Q7 A7) hw9) k5 (Ah (Af R7 (Tt b2 Y2)) hw9) (Ah (Af U7 (Tt b2 Y2)) hw9) W06) I fun x0c G0b t03 ⟨z3,A3,hu_,V7,W7⟩=>?_
 subst hu_
 obtain ⟨z00,W01⟩:=K2.agr t03
 refine AT [.bool Q0.fj.fc,z3,.bool Q0.fh.fc,A3] z00 .t1 (o4 I (Az V7) I (Az W7)) fun y0c Q3 s4=>Aa<|Am<|Ac I<|Ab (AA I (Q3.memA .t2))<|Ab (AA I (Q3.memA .t1)) ?_
 have B7:=Tt H4 (Tt b2 (Tt Y2 (Tt W01 s4)))
 refine RG.now .plain (BK (kv:=p0.fm) (vv:=[.bool Q0.fj.fc,z3,.bool Q0.fh.fc,A3]) ar Q3 .t6 underlying124 I I I) fun z0c A00 x6=>Aa<|MX.fin I<|Au (u:=.tuple #[]) g7 func88 I .nil I<|AN (dk z0)<|Aw<|Am<|Ab (Bc (i:=J0) (j:=1) I I (by omega))<|Ac I<|Aa ?_
 obtain ⟨B00,y6⟩:=AB A00 .d4
 exact y5 (J0 + 1,aC s1 p0.fm Q0,(aC j1 p0.fm [.bool Q0.fj.fc,z3,.bool Q0.fh.fc,A3])) B00 (Tt C2 (Tt B7 (Tt x6 y6))) (BM (MR.set (k:=p0.fm) (c:=[.bool Q0.fj.fc,z3,.bool Q0.fh.fc,A3]) (y:=Q0) (ck Q0.fj (Af V7 s4) Q0.fh (Af W7 s4)) (BM q3 B7)) (Tt x6 y6)) h
 refine Ba I ?_
 have h:=p04 _ h
 try dsimp only at h
 refine Aw<|Am<|Ab (Bc (i:=x0) (j:=1) I I (by omega))<|Ac I<|Aa ?_
 obtain ⟨C00,z6⟩:=AB D5 .d1
 exact x5 (x0 + 1,s1,j1) C00 (Tt d6 (Tt j3 (Tt C2 z6))) (BM q3 z6) h
 refine Ba I ?_
 have h:=k04 _ h
 try dsimp only at h
 refine Ae<|Ac I<|BD (fst:=[]) (cap:=[]) (vs:=[vP v0]) .plain (bd 87) func87 I I I I (e1 I) I fun V09 D4 Q0a=>Ae<|Ag I<|Ag I<|Aa<|Aj<|Ae<|Ac I<|Ab (Bu I)<|Bk 0 I<|Bd I ((U0.memA .hd) 0 _ I)<|Ab (FV.as (FV.len_map (D:=d0) U0 .t1 underlying124 I) (congrArg (fun n9:Nat=>Value.int .i64 (n9:Int)) (MR.len p3)))<|Ab (FV.gtrN (i:=c1.length) (j:=400) I I)<|Aa<|AW I h (fun A9 h=>?_) (fun A9 h=>?_)
 refine Ae<|Ag I<|Ag I<|Aa<|Ar I<|Au (u:=.tuple #[vN,vI 3]) D4 func87 I (.cons (.tmp I) (.cons (.tmp I) .nil)) I<|Ab (Ai I I)<|Ab (Ai I I)<|Ag I<|Ag I<|Aa<|Ar I ?_
 have F05:=Bm (α:=Ta) U0 L
 refine Au hb0 func31 I (.cons (.tmp I) (.cons (.tmp I) .nil)) I ?_
 cases h
 exact ⟨U0.ag,fun w9 hw9=>⟨vN,I,U0.kd F05 hw9⟩⟩
 refine Aq<|Ae<|Ag I<|Aa<|Aj<|Ae<|Ac I<|Ab (Bu I)<|Bk 0 I<|Bd I ((U0.memA .hd) 0 _ I)<|Ao .plain I (Does.range (D:=d0) U0 .t1 underlying124 I) fun V07 R1 F5 X01=>Aa<|Av ?_
 have G5:=F5.nilRow 37 (Rep.size Ta)
 refine MX.mloop (α:=(Lb Ta) × Bool × Vc × (Lb Vc) × (Array Nat)) (fun ⟨M0,y1,F0,E1,A1⟩=>[(0,vP v0),(4,F0),(19,vP R1)]) (fun F8 ⟨M0,y1,F0,E1,A1⟩ G3=>St w G3 [rr w 37 Ta F0 M0.length E1,.obj R1 (aD c0 d0.length A1),.cells v0 [.map (some c0),.bool y1] 126,.obj c0 (ay d0)]/\Tr V07 [rr w 37 Ta vN (([]:Lb Ta).length) [],.obj R1 (aD c0 d0.length #[]),.cells v0 [.map (some c0),.bool false] 126,.obj c0 (ay d0)] G3 [rr w 37 Ta F0 M0.length E1,.obj R1 (aD c0 d0.length A1),.cells v0 [.map (some c0),.bool y1] 126,.obj c0 (ay d0)]/\Cells G3 (bl [rr w 37 Ta F0 M0.length E1,.obj R1 (aD c0 d0.length A1),.cells v0 [.map (some c0),.bool y1] 126,.obj c0 (ay d0)] ++ L) E1 M0/\left c1 A1 = F8) (fun ⟨M0,y1,F0,E1,A1⟩=>(M0,y1)) (([]:Lb Ta),false,vN,[],#[]) h ⟨rfl,rfl,rfl,trivial⟩ ⟨G5,BO _ _,(AJ (cs:=[]) (xs:=([]:Lb Ta)) G5 L (AR _ _)),(cE _)⟩ ?_
 rintro F8 ⟨M0,y1,F0,E1,A1⟩ G3 J08 Y9 ⟨D00,A6,k7,H04⟩ c05 Q03
 refine Ae<|RG.nextR (W:=d0) (BM p3 (Tt X01 (Tt (BT F5 37 (Rep.size Ta)) A6))) D00 .t3 (fun _=>.t1) I I H04 (fun A0c d05 G1 Y01=>?_) (fun B0c D8 j0 W09 C07 v04 G05 x05 I04 H5 Z01=>?_)
 have h:=c05 d05
 try dsimp only at h
 refine Ab (Ai I I)<|Aa<|Aj<|Bv I<|Ba I<|Aj<|Ae<|Ac I<|Ab (Bu I)<|Bk 1 I<|Bd I ((G1.memA .t2) 1 _ I)<|Aa<|MX.ifb I h (fun B9 h=>?_) (fun B9 h=>?_)
 refine Ae<|Ag I<|Ag I<|Aa<|Ar I<|Au (u:=.tuple #[vN,vI 6]) D4 func87 I (.cons (.tmp I) (.cons (.tmp I) .nil)) I<|Ab (Ai I I)<|Ab (Ai I I)<|Ag I<|Ag I<|Aa<|Ar I ?_
 have H05:=Bm (α:=Ta) G1 L
 refine Au hb0 func31 I (.cons (.tmp I) (.cons (.tmp I) .nil)) I ?_
 cases h
 exact ⟨G1.ag,fun w9 hw9=>⟨vN,I,G1.kd H05 hw9⟩⟩
 refine Aq<|Ae<|Ac I<|BD (fst:=[]) (cap:=[]) (vs:=[F0,.func (.func 144) #[] #[]]) .plain (bd 143) func143 I I I I (e2 I I) I fun X09 H03 R0a=>Ae<|Ac I ?_
 have H0a:M0.length <= 4294967296:=St.rowLe (α:=Ta) G1 .hd
 obtain ⟨z08,B09,X03⟩:=St.rowV (α:=Ta) G1 .hd
 refine Ab (FV.lenV underlying24 I X03)<|Ag I<|Aa<|Am<|Ac I<|Ac I<|Ac I<|Ab (FV.convU (i:=((M0.length:Nat):Int)) underlying3 underlying193 I)<|bk h fun j9 X06 h=>Bj (vI j9) (bd 174) I (e1 I) (fun w9 hw9=>bq_c n (G1.hL0 hL hw9) (ac ((M0.length:Nat):Int)) X06) I<|Ac I<|bk h fun b9 J06 h=>RG.sort (enc:=av) (ρ:=Tryz.srt173_ren) (c:=(fun x9 y9=>ah_p n x9 y9)) (li:=j9) J06 I (fun _ _ _ _ h9=>aF h9) (fun w9 L9 z9=>aS (w:=w9) (L:=L9) z9.fm z9.fP) Tryz.srt173 (fun w9=>Tryz.isAgg37 w9) (fun w9=>Tryz.sizeOf37 w9) (enters_of func144 I I) (fun x9 y9 r9 w9 h9=>ah_c n (L:=[]) (w:=w9) (fun _ h8=>nomatch h8) x9 y9 h9) .plain (bd 173) I (e5 I I I I I) I G1 (AO k7 Y01) .hd fun W07 M2 v0a=>Aa<|MX.fin I<|Au (u:=.tuple #[]) H03 func143 I .nil I<|Aa<|Ae<|Ac I<|Ag I<|Ag I<|Aa<|Ar I<|Au (u:=.tuple #[F0,vI 0]) D4 func87 I (.cons (.tmp I) (.cons (.tmp I) .nil)) I<|Ab (Ai I I)<|Ab (Ai I I)<|Ag I<|Ag I<|Aa<|Ar I ?_
 have R3:=Bw M2 .hd
 have x0a:=Bx M2 .hd
 have I05:=By (α:=Ta) (v:=F0) (xs:=b9) R3 L (Bg (α:=Ta) M2 .hd (AJ M2 L (bF (α:=Ta) (enc:=av) (fun w9 L9 z9=>aS (w:=w9) (L:=L9) z9.fm z9.fP) W07 _ b9)) hL)
 refine Au hb0 func31 I (.cons (.tmp I) (.cons (.tmp I) .nil)) I ?_
 cases h
 exact ⟨R3.ag,fun w9 hw9=>⟨F0,I,R3.kd I05 hw9⟩⟩
 obtain ⟨H07,I07,rfl,X7,Y7⟩:=cF G05
 have h:=Q03 _ _ x05
 unfold cX at h
 try dsimp only at h
 refine Ab (Ai I I)<|Aa<|Aj<|AE I<|Aq<|Av<|Ae<|Ab (FV.entry (D:=d0) H5 .t3 .t1 v04 I)<|Ab (Ai I I)<|Ab (Ai I I)<|RG.nl zL H5 fun C0c q5 E00 b02=>RG.nl [.bool false,vN,.bool false,vN] E00 fun D0c d09 F00 c02=>AT (ab j0.1) F00 .t1 (ai I) fun E0c G00 d02=>?_
 have E2:=Tt Z01 (Tt b02 (Tt c02 d02))
 refine AT [.bool j0.2.fj.fc,H07,.bool j0.2.fh.fc,I07] G00 .hd (o4 I (Az (Af X7 E2)) I (Az (Af Y7 E2))) fun F0c y2 t4=>Aa<|Ae<|Ab (AA I (y2.memA .hd))<|bk h fun s0 Y06 h=>Bj (.tuple #[.agg ((ab s0.1)).toArray,vI s0.2]) (bd 77) I (e1 I) (fun w9 hw9=>ac_c n (y2.hL0 hL hw9) j0.2 (y2.kd (Af X7 (Tt E2 t4)) hw9) (y2.kd (Af Y7 (Tt E2 t4)) hw9) Y06) I<|Ac I<|Ab (Ai I I)<|Ab (Ai I I)<|RG.nl zL y2 fun G0c s5 H00 g02=>AT (ab s0.1) H00 .hd (ai I) fun H0c U3 j02=>Ag I<|Aa<|Aj<|Ae<|Ac I<|Ab (BB (i:=s0.2) (j:=0) I I)<|Aa<|MX.jo (α:=Bool) (fun j2=>[(0,vP v0),(4,F0),(19,vP R1),(5,vP q5),(7,vP s5)]) (fun j2=>[.cells s5 (ab s0.1) 34,.cells q5 (ab j0.1) 34,rr w 37 Ta F0 M0.length E1,.obj R1 (aD c0 d0.length (A1.push D8)),.cells v0 [.map (some c0),.bool j2] 126,.obj c0 (ay d0)]) (fun j2=>j2) U3 h ?_ ?_
 rintro j2 s0e V3 k02 h
 try dsimp only at h
 refine Am<|Ac I<|Ab (AA I (V3.memA .t1))<|Ab (AA I (V3.memA .hd))<|Ab (AS (vs:=[.agg ((ab j0.1)).toArray,.agg ((ab s0.1)).toArray]) (u:=.agg ((ab j0.1 ++ ab s0.1)).toArray) (e2 I I) (fun w9=>by kernel_rfl))<|Ao .plain I (AV (α:=Ta) (xs:=([(⟨j0.1,s0.1⟩:Ta)]:Lb Ta)) (vs:=[.agg ((ab j0.1 ++ ab s0.1)).toArray]) (ds' :=(ab j0.1 ++ ab s0.1)) I V3 cJ I (e1 I) (by kernel_rfl) I) fun I0c g09 W3 p02=>bk h fun d08 K06 h=>?_
 have C7:=Tt E2 (Tt t4 (Tt g02 (Tt j02 (Tt k02 p02))))
 refine BA .plain I (Bl (α:=Ta) (ys:=([(⟨j0.1,s0.1⟩:Ta)]:Lb Ta)) K06 W3 (fun _ _=>.t3) cJ I I (AO k7 C7) (BH (α:=Ta) W3 .hd (AJ (cs:=(ab j0.1 ++ ab s0.1)) (xs:=(([(⟨j0.1,s0.1⟩:Ta)]:Lb Ta):Lb Ta)) W3 L (AC (cs:=(ab j0.1 ++ ab s0.1)) (ds:=[]) (aS j0.1 s0.1) (AR _ _))))) fun J07 J0c ⟨W9,I00,q02,M03⟩=>Ag I<|Aa<|Aw ?_
 obtain ⟨J00,B6⟩:=AB I00 .d3
 exact Y9 C07 (d08,j2,J07,W9,(A1.push D8)) _ _ ⟨I,I,I,trivial⟩ ⟨J00,(Tt A6 (Tt C7 (Tt q02 B6))),(AO M03 B6),I04⟩ h
 intro K08 z5 h
 try dsimp only at h
 refine BI I h (fun C9 h=>?_) (fun C9 h=>?_)
 refine Aq ?_
 obtain ⟨K00,s02⟩:=AB U3 (.a0 .d1)
 exact z5 y1 K00 s02 h
 refine Am<|Ac I<|Ab (Bu I)<|Bk 1 I<|RG.now .plain (BS (j:=1) (old:=[.map (some c0),.bool y1]) (news:=[.bool true]) (new' :=[.map (some c0),.bool true]) U3 .t5 I I I I I I (o1 I) I) fun K0c M00 t02=>Aa ?_
 obtain ⟨P00,u02⟩:=AB M00 (.a0 .d1)
 exact z5 true P00 (Tt t02 u02) h
 refine Ae<|Ag I<|Ag I<|Aa<|Ar I ?_
 have J05:=Bm (α:=Ta) x1 L
 refine Au hb0 func31 I (.cons (.tmp I) (.cons (.tmp I) .nil)) I ?_
 cases h
 exact ⟨x1.ag,fun w9 hw9=>⟨vN,I,x1.kd J05 hw9⟩⟩
 refine Aq<|Aw<|Am<|Ab (Bc (i:=i32) (j:=1) I I (by omega))<|Ac I<|Aa<|d00 (i32 + 1) W0 K02 h
 refine Ba I ?_
 have h:=bq h q7
 try dsimp only at h
 refine Ae<|Ag I<|Aa<|Ar I<|Au (u:=vI (-1)) d7 func146 I (.cons (.tmp I) .nil) I<|Ab (FV.geq (i:=(-1)) (j:=0) I I)<|Ag I<|Aa<|Ar I<|Au (u:=.bool (decide (0 <= (-1)))) c7 func93 I (.cons (.tmp I) .nil) I<|Bs I I<|Ac I<|RG.ifd (s:=36) I h (fun D9 h=>?_) (fun D9 h=>?_)
 refine Ap<|Ap<|Ap<|Ap<|Ap<|Br I I<|Aa<|AE I<|Ae<|Ag I<|Ag I<|Aa<|Ar I ?_
 have K05:=Bm (α:=Ta) W0 L
 refine Au hb0 func31 I (.cons (.tmp I) (.cons (.tmp I) .nil)) I ?_
 cases h
 exact ⟨W0.ag,fun w9 hw9=>⟨vN,I,W0.kd K05 hw9⟩⟩
 refine AM (Al I)<|BD (fst:=[]) (cap:=[]) (vs:=[v1_0,.func (.func 68) #[] #[]]) (.yes I I) (bd 95) func95 I I I I (e2 I I) I fun Y09 I03 U0a=>Ae<|RG.nl [.bool false,vN,.bool false,vN] W0 fun M0c G2 I5 y0a=>Aa<|Ae<|bk h fun p2 Z06 h=>jE (bd 71) I (e1 I) (fun w9 hw9=>aI_c n (I5.hL hL hw9)  Z06) I fun P0c H0b u03 ⟨H8,I8,hu_,Z7,b8⟩=>?_
 subst hu_
 obtain ⟨Q00,z0a⟩:=I5.agr u03
 refine RG.nl [.bool false,vN,.bool false,vN] Q00 fun Q0c H2 R00 Z2=>AT [.bool p2.fj.fc,H8,.bool p2.fh.fc,I8] R00 .hd (o4 I (Az (Af Z7 Z2)) I (Az (Af b8 Z2))) fun R0c J5 C6=>Aa<|Aj<|Ae<|Ac I<|Ab (AY (xs:=a1) underlying51 I (AG h1_0 J5))<|Ac I<|Aa<|Av ?_
 obtain ⟨d0b,s05,s04⟩:=am h
 refine BR (α:=Nat × Bool × (Lb Ua) × Bool × (Lb Ua) × Vc × Vc) (fun ⟨q1,D0,P1,E0,Q1,Z0,b1⟩=>[(1,.func (.func 68) #[] #[]),(4,vP G2),(5,vP H2),(9,v1_0),(10,vn a1.length),(11,vn q1)]) (fun ⟨q1,D0,P1,E0,Q1,Z0,b1⟩=>[.cells H2 [.bool D0,Z0,.bool E0,b1] 109,.cells G2 [.bool false,vN,.bool false,vN] 109]) (fun ⟨q1,D0,P1,E0,Q1,Z0,b1⟩ j5=>Rep.R j5 (bl [.cells H2 [.bool D0,Z0,.bool E0,b1] 109,.cells G2 [.bool false,vN,.bool false,vN] 109] ++ L) [Z0] P1/\Rep.R j5 (bl [.cells H2 [.bool D0,Z0,.bool E0,b1] 109,.cells G2 [.bool false,vN,.bool false,vN] 109] ++ L) [b1] Q1) (fun ⟨q1,D0,P1,E0,Q1,Z0,b1⟩=>(q1,D0,P1,E0,Q1)) (0,p2.fj.fc,p2.fj.fk,p2.fh.fc,p2.fh.fk,H8,I8) s05 J5 ⟨(Af Z7 (Tt Z2 C6)),(Af b8 (Tt Z2 C6))⟩ ?_
 rintro P08 ⟨q1,D0,P1,E0,Q1,Z0,b1⟩ j5 b00 Q2 x02 ⟨R4,U4⟩ h
 unfold bB_l6 at h
 try dsimp only at h
 refine Ae<|Ab (AU (i:=q1) (j:=a1.length) I I)<|Aa<|Aj<|AW I h (fun F9 h=>?_) (fun F9 h=>?_)
 refine Aq<|Aj<|Av<|Ae<|bk h fun Y8 D06 h=>?_
 obtain ⟨A08,C09,Y03,B04,Z09,M05,U04⟩:=Be (AG h1_0 Q2) D06
 obtain rfl:=dp M05
 refine Ab (Bf 16 q1 I Y03 I I B04)<|Ab (AA I U04)<|RG.nl zL Q2 fun U0c j09 U00 y02=>AT (ab Y8) U00 .hd (ai I) fun V0c R2 z02=>Aa<|du 5 fun V1 Y4=>Rx 0 48 V1 I Y4 (AA I (R2.memA .t1))<|Rv 1 V1 I Y4 (fun _=>Al I)<|Rx 2 56 V1 I Y4 (AA I (R2.memA .hd))<|bk h fun k08 b07 h=>AZ 3 15 V1 I .plain (bd 68) I (e1 I) (fun w9 hw9=>al_c n (R2.hL hL hw9) Y8 b07) I fun W0c I0b v03 ⟨s0b,t0b,hu_,P05,Q05⟩=>?_
 subst hu_
 obtain ⟨K5,A02⟩:=R2.agr v03
 refine bk h fun q2 c07 h=>?_
 have I4:=Tt y02 (Tt z02 A02)
 refine AZ 4 31 V1 I .plain (bd 81) I (e2 I I) (fun w9 hw9=>ab_c n (K5.hL hL hw9) (⟨(⟨D0,P1⟩:Tf),(⟨E0,Q1⟩:Tf)⟩:Td) (Ah (Af R4 I4) hw9) (Ah (Af U4 I4) hw9) k08 (Ah P05 hw9) (Ah Q05 hw9) c07) I fun X0c J0b x03 ⟨J8,K8,hu_,d8,g8⟩=>?_
 subst hu_
 obtain ⟨V00,B02⟩:=K5.agr x03
 refine BC 5 63 V1 I I .plain (AD (news:=[.bool q2.fj.fc,J8,.bool q2.fh.fc,K8]) V00 .t1 I I I I I I (o4 I (Az d8) I (Az g8))) fun Y0c W00 u4=>AN (dk V1)<|Aw<|Am<|Ab (Bc (i:=q1) (j:=1) I I (by omega))<|Ac I<|Aa ?_
 obtain ⟨X00,v4⟩:=AB W00 .d1
 exact b00 (q1 + 1,q2.fj.fc,q2.fj.fk,q2.fh.fc,q2.fh.fk,J8,K8) X00 (Tt x02 (Tt I4 (Tt B02 (Tt u4 v4)))) ⟨(Af d8 (Tt u4 v4)),(Af g8 (Tt u4 v4))⟩ h
 refine Ba I ?_
 have h:=s04 _ h
 try dsimp only at h
 refine Ae<|Ab (AA I (Q2.memA .hd))<|AT [.bool D0,Z0,.bool E0,b1] Q2 .t1 (o4 I (Az R4) I (Az U4)) fun Z0c X3 D6=>Aa<|Ar I<|Au (u:=.agg #[.bool D0,Z0,.bool E0,b1]) I03 func95 I (.cons (.many (cs:=[.bool D0,Z0,.bool E0,b1]) I I (X3.memA .t1)) .nil) I<|bk h fun p08 d07 h=>Ay (fst:=[]) (cap:=[]) (.yes I I) (bd 71) I (e1 I) (fun w9 hw9=>aI_c n (X3.hL hL hw9)  d07) I fun b0d K0b y03 ⟨u0b,v0b,hu_,R05,U05⟩=>?_
 subst hu_
 obtain ⟨v1,E6⟩:=X3.agr y03
 refine bk h fun k9 g07 h=>BG (v:=vI k9) (fst:=[]) (cap:=[]) (.yes I I) (bd 69) I (e2 I I) (fun w9 hw9=>aK_c n (v1.hL0 hL hw9) (⟨(⟨D0,P1⟩:Tf),(⟨E0,Q1⟩:Tf)⟩:Td) (v1.kd (Af R4 (Tt D6 E6)) hw9) (v1.kd (Af U4 (Tt D6 E6)) hw9) p08 (v1.kd R05 hw9) (v1.kd U05 hw9) g07) I<|AM (BB (i:=k9) (j:=0) I I)<|Bs I I<|Aa<|BI I h (fun G9 h=>?_) (fun G9 h=>?_)
 refine Aq<|Ae<|Ao .plain I (Does.makeMap (κ:=Tb) (ν:=Lb Vc) v1) fun c0d b0 M5 A0a=>Ab (AS (vs:=[.map (some b0)]) (u:=.agg #[.map (some b0),.bool false]) (e1 I) (fun w9=>by kernel_rfl))<|RG.bx M5 I I fun d0d u0 P5 C02=>Ag I<|Aa<|Aj<|Ae<|Ac I<|Ab (AY (xs:=a0) underlying57 I (AG h0_0 P5))<|Ac I<|Aa<|Av ?_
 obtain ⟨d01,I02⟩:=AB P5 (.a0 (.a0 .done))
 obtain ⟨g0b,t05,t04⟩:=am h
 refine BR (α:=Nat × (Lb (Tb × Td)) × (Lb (Tb × Lb Vc))) (fun ⟨y0,g1,g0⟩=>[(1,v1_0),(7,vP u0),(46,v0_0),(47,vn a0.length),(48,vn y0)]) (fun ⟨y0,g1,g0⟩=>[.cells u0 [.map (some b0),.bool false] 126,.obj b0 (ay g0)]) (fun ⟨y0,g1,g0⟩ W8=>MR W8 (bl [.cells u0 [.map (some b0),.bool false] 126,.obj b0 (ay g0)] ++ L) g0 g1) (fun ⟨y0,g1,g0⟩=>(y0,g1)) (0,([]:Lb (Tb × Td)),([]:Lb (Tb × Lb Vc))) t05 d01 (BM (MR.at_ (Z:=([]:Lb (Tb × Lb Vc))) (M:=([]:Lb (Tb × Td))) M5 L trivial) (Tt C02 I02)) ?_
 rintro Q08 ⟨y0,g1,g0⟩ W8 A5 V0 H6 s3 h
 unfold bB_l5 at h
 try dsimp only at h
 refine Ae<|Ab (AU (i:=y0) (j:=a0.length) I I)<|Aa<|Aj<|AW I h (fun I9 h=>?_) (fun I9 h=>?_)
 refine Aq<|Aj<|Av<|Ae<|Ac I<|bk h fun J3 F06 h=>?_
 obtain ⟨C08,E09,b04,D04,c0a,b06,W04⟩:=Be (AG h0_0 V0) F06
 obtain ⟨K07,rfl,p8⟩:=dz b06
 refine Ab (Bf 1 y0 I b04 I I D04)<|Bd I (W04 0 _ I)<|Ag I<|Ag I<|Aa<|Ae<|Ac I<|Ac I<|bk h fun b08 G06 h=>?_
 obtain ⟨D08,F09,c04,E04,d0a,c06,X04⟩:=Be (AG h1_0 V0) G06
 obtain rfl:=dp c06
 refine Ab (Bf 16 y0 I c04 I I E04)<|Ab (AA I X04)<|bk h fun D1 s07 h=>jE (bd 68) I (e1 I) (fun w9 hw9=>al_c n (V0.hL hL hw9) b08 s07) I fun x0d R0b C03 ⟨B3,d5,hu_,V4,q8⟩=>?_
 subst hu_
 obtain ⟨g01,I6⟩:=V0.agr C03
 refine RG.nl [.bool false,vN,.bool false,vN] g01 fun y0d M3 j01 d2=>AT [.bool D1.fj.fc,B3,.bool D1.fh.fc,d5] j01 .hd (o4 I (Az (Af V4 d2)) I (Az (Af q8 d2))) fun z0d z2 b3=>Aa<|Aj<|Ae<|Bk 0 I<|Ab (AQ (cs:=[.bool D1.fj.fc,B3]) I I (ae (z2.memA .hd) 0 2))<|bk h fun q9 t07 h=>Bj (vI q9) (bd 67) I (e1 I) (fun w9 hw9=>aY_c n (z2.hL0 hL hw9) D1.fj (z2.kd (Af V4 (Tt d2 b3)) hw9) t07) I<|Ab (FV.eql (i:=q9) (j:=0) I I)<|Aa<|AW I h (fun J9 h=>?_) (fun J9 h=>?_)
 refine Ba I<|Am<|Ab (Bc (i:=y0) (j:=1) I I (by omega))<|Ac I<|Aa ?_
 obtain ⟨k01,J02⟩:=AB z2 .d1
 have D7:=Tt I6 (Tt d2 (Tt b3 J02))
 exact A5 (y0 + 1,g1,g0) k01 (Tt H6 D7) (BM s3 D7) h
 refine Aq<|Ae<|Ac I ?_
 have k3:=Tt I6 (Tt d2 b3)
 have t7:=Af p8 k3
 have I0a:=AX t7
 refine Ab (AY (xs:=J3) underlying24 I t7)<|Ac I<|Aa<|Av ?_
 obtain ⟨j0b,u05,u04⟩:=am h
 refine BR (α:=Nat × (Lb (Tb × Td)) × (Lb (Tb × Lb Vc))) (fun ⟨K0,u1,k1⟩=>[(1,v1_0),(7,vP u0),(46,v0_0),(47,vn a0.length),(48,vn y0),(10,vP M3),(62,K07),(63,vn J3.length),(64,vn K0)]) (fun ⟨K0,u1,k1⟩=>[.cells M3 [.bool D1.fj.fc,B3,.bool D1.fh.fc,d5] 109,.cells u0 [.map (some b0),.bool false] 126,.obj b0 (ay k1)]) (fun ⟨K0,u1,k1⟩ X8=>MR X8 (bl [.cells M3 [.bool D1.fj.fc,B3,.bool D1.fh.fc,d5] 109,.cells u0 [.map (some b0),.bool false] 126,.obj b0 (ay k1)] ++ L) k1 u1) (fun ⟨K0,u1,k1⟩=>(K0,u1)) (0,g1,g0) u05 z2 (BM s3 k3) ?_
 rintro R08 ⟨K0,u1,k1⟩ X8 B5 V5 D2 u3 h
 unfold bB_l4 at h
 try dsimp only at h
 refine Ae<|Ab (AU (i:=K0) (j:=J3.length) I I)<|Aa<|Aj<|AW I h (fun K9 h=>?_) (fun K9 h=>?_)
 refine Aq<|Aj<|Av<|Ae<|bk h fun q0 H06 h=>?_
 obtain ⟨E08,G09,d04,F04,g0a,d06,Y04⟩:=Be (Af p8 (Tt k3 D2)) H06
 obtain rfl:=aF d06
 refine Ab (Bf 32 K0 I d04 I I F04)<|Ab (AA I Y04)<|RG.nl [vW 0,vW 0,vW 0,vW 0,vW 0,vW 0,vW 0,vW 0,vW 0,vW 0,vW 0,vW 0,vW 0,vW 0,vW 0,vW 0,vW 0,vW 0,vW 0,vW 0,vW 0,vW 0,vW 0,vW 0,vW 0,vW 0,vW 0,vW 0,vW 0,vW 0,vW 0,vW 0] V5 fun A0d p09 p01 J6=>AT (av q0) p01 .hd (ai I) fun B0d Y1 K6=>Aa<|du 10 fun A0 J1=>Rv 0 A0 I J1 (fun _=>Al I)<|Rv 1 A0 I J1 (fun _=>Bu I)<|Rv 2 A0 I J1 (fun _=>Bh 0 I)<|Rx 3 1024 A0 I J1 (Bn I ((Y1.memA .t2) 0 _ I))<|Rv 4 A0 I J1 (fun _=>Bh 0 I)<|Rx 5 1024 A0 I J1 (AQ (cs:=(ab q0.fm)) I I (ae (Y1.memA .hd) 0 16))<|Rx 6 1664 A0 I J1 (AA I (Y1.memA .hd))<|Rx 8 1536 A0 I J1 (AA I (Y1.memA .t1))<|bk h fun t08 u07 h=>AZ 7 511 A0 I .plain (bd 66) I (e1 I) (fun w9 hw9=>bb_c n (Y1.hL hL hw9) q0 u07) I fun C0d U0b D03 ⟨B0b,C0b,hu_,g06,j06⟩=>?_
 subst hu_
 obtain ⟨W5,M6⟩:=Y1.agr D03
 refine bk h fun I0 v07 h=>?_
 have E7:=Tt d2 (Tt b3 (Tt D2 (Tt J6 (Tt K6 M6))))
 refine AZ 9 1023 A0 I .plain (bd 80) I (e2 I I) (fun w9 hw9=>av_c n (W5.hL hL hw9) t08 (Ah g06 hw9) (Ah j06 hw9) D1 (Ah (Af V4 E7) hw9) (Ah (Af q8 E7) hw9) v07) I fun D0d V0b E03 ⟨C3,D3,hu_,s8,t8⟩=>?_
 subst hu_
 obtain ⟨q01,M02⟩:=W5.agr E03
 refine BJ (i:=10) (rk A0) (RO.enterPT (m' :=2047) (fst:=[]) (cap:=[]) (vs:=[.map (some b0),.agg ((ab q0.fm)).toArray,.agg #[.bool I0.fj.fc,C3,.bool I0.fh.fc,D3]]) (sk A0) I I .plain (bd 88) func88 I I I I (e3 I I I) I (fun _ j0a j7 V0a=>?_))
 refine Ae<|RG.bx q01 I I fun E0d q09 s01 z4=>RG.bx s01 I I fun F0d s09 A2 A4=>Aa<|Aj<|Ae<|Ac I<|Ab (AA I (A2.memA .t1)) ?_
 have K4:=Tt J6 (Tt K6 (Tt M6 (Tt M02 (Tt z4 A4))))
 have Z04:=BM u3 K4
 rcases MR.get q0.fm Z04 with ⟨G4,X4⟩ | ⟨k0a,p5,X4,G4,k06⟩
 have h:=cQ h G4
 refine Ab (FV.lookupK (kv:=q0.fm) (q:=false) ar A2 .t5 underlying124 (z:=.agg #[.bool false,vN,.bool false,vN]) I I I (.inl ⟨X4,I,I⟩))<|Ac I<|Ab (Ai I I)<|Ab (Ai I I)<|RG.nl [.bool false,vN,.bool false,vN] A2 fun G0d t09 t01 P6=>AT [.bool false,vN,.bool false,vN] t01 .hd (ai I) fun H0d Z3 Q6=>Ag I<|Aa<|Ae<|Ac I<|Aa<|Bv I<|Aq<|Am<|Ac I<|Ab (AA I (Z3.memA .t2))<|Ab (AA I (Z3.memA .t1)) ?_
 have F7:=Tt K4 (Tt P6 Q6)
 have G7:=Tt z4 (Tt A4 (Tt P6 Q6))
 refine RG.now .plain (BK (kv:=q0.fm) (vv:=[.bool I0.fj.fc,C3,.bool I0.fh.fc,D3]) ar Z3 .t6 underlying124 I I I) fun I0d u01 R6=>Aa<|MX.fin I<|Au (u:=.tuple #[]) j7 func88 I .nil I<|AN (dk A0)<|Aw<|Am<|Ab (Bc (i:=K0) (j:=1) I I (by omega))<|Ac I<|Aa ?_
 obtain ⟨v01,U6⟩:=AB u01 .d4
 exact B5 (K0 + 1,aC u1 q0.fm I0,(aC k1 q0.fm [.bool I0.fj.fc,C3,.bool I0.fh.fc,D3])) v01 (Tt D2 (Tt F7 (Tt R6 U6))) (BM (MR.set (k:=q0.fm) (c:=[.bool I0.fj.fc,C3,.bool I0.fh.fc,D3]) (y:=I0) (ck I0.fj (Af s8 G7) I0.fh (Af t8 G7)) (BM u3 F7)) (Tt R6 U6)) h
 have h:=cN h G4
 obtain ⟨M07,P07,rfl,u8,v8⟩:=cF k06
 refine Ab (FV.lookupK (kv:=q0.fm) (q:=true) ar A2 .t5 underlying124 (z:=.agg #[.bool false,vN,.bool false,vN]) I I I (.inr ⟨_,X4,I,I⟩))<|Ac I<|Ab (Ai I I)<|Ab (Ai I I)<|RG.nl [.bool false,vN,.bool false,vN] A2 fun J0d u09 x01 g2=>AT [.bool p5.fj.fc,M07,.bool p5.fh.fc,P07] x01 .hd (o4 I (Az (Af u8 g2)) I (Az (Af v8 g2))) fun K0d V2 c3=>Ag I<|Aa<|Ae<|Ac I<|Aa<|AE I<|Am<|Ab (AA I (V2.memA .t1))<|Ab (AA I (V2.memA .hd))<|bk h fun R0 x07 h=>?_
 have H7:=Tt z4 (Tt A4 (Tt g2 c3))
 refine jE (bd 81) I (e2 I I) (fun w9 hw9=>ab_c n (V2.hL hL hw9) I0 (Ah (Af s8 H7) hw9) (Ah (Af t8 H7) hw9) p5 (Ah (Af u8 (Tt g2 c3)) hw9) (Ah (Af v8 (Tt g2 c3)) hw9) x07) I fun M0d W0b F03 ⟨E3,F3,hu_,x8,y8⟩=>?_
 subst hu_
 obtain ⟨y01,P02⟩:=V2.agr F03
 refine AT [.bool R0.fj.fc,E3,.bool R0.fh.fc,F3] y01 .t1 (o4 I (Az x8) I (Az y8)) fun P0d b4 B4=>Aa<|Am<|Ac I<|Ab (AA I (b4.memA .t2))<|Ab (AA I (b4.memA .t1)) ?_
 have I7:=Tt K4 (Tt g2 (Tt c3 (Tt P02 B4)))
 refine RG.now .plain (BK (kv:=q0.fm) (vv:=[.bool R0.fj.fc,E3,.bool R0.fh.fc,F3]) ar b4 .t6 underlying124 I I I) fun Q0d z01 V6=>Aa<|MX.fin I<|Au (u:=.tuple #[]) j7 func88 I .nil I<|AN (dk A0)<|Aw<|Am<|Ab (Bc (i:=K0) (j:=1) I I (by omega))<|Ac I<|Aa ?_
 obtain ⟨A01,W6⟩:=AB z01 .d4
 exact B5 (K0 + 1,aC u1 q0.fm R0,(aC k1 q0.fm [.bool R0.fj.fc,E3,.bool R0.fh.fc,F3])) A01 (Tt D2 (Tt I7 (Tt V6 W6))) (BM (MR.set (k:=q0.fm) (c:=[.bool R0.fj.fc,E3,.bool R0.fh.fc,F3]) (y:=R0) (ck R0.fj (Af x8 B4) R0.fh (Af y8 B4)) (BM u3 I7)) (Tt V6 W6)) h
 refine Ba I ?_
 have h:=u04 _ h
 try dsimp only at h
 refine Aw<|Am<|Ab (Bc (i:=y0) (j:=1) I I (by omega))<|Ac I<|Aa ?_
 obtain ⟨B01,X6⟩:=AB V5 .d1
 exact A5 (y0 + 1,u1,k1) B01 (Tt H6 (Tt k3 (Tt D2 X6))) (BM u3 X6) h
 refine Ba I ?_
 have h:=t04 _ h
 try dsimp only at h
 refine Ae<|Ac I<|BD (fst:=[]) (cap:=[]) (vs:=[vP u0]) .plain (bd 87) func87 I I I I (e1 I) I fun p0a E4 W0a=>Ae<|Ag I<|Ag I<|Aa<|Aj<|Ae<|Ac I<|Ab (Bu I)<|Bk 0 I<|Bd I ((V0.memA .hd) 0 _ I)<|Ab (FV.as (FV.len_map (D:=g0) V0 .t1 underlying124 I) (congrArg (fun n9:Nat=>Value.int .i64 (n9:Int)) (MR.len s3)))<|Ab (FV.gtrN (i:=g1.length) (j:=400) I I)<|Aa<|AW I h (fun M9 h=>?_) (fun M9 h=>?_)
 refine Ae<|Ag I<|Ag I<|Aa<|Ar I<|Au (u:=.tuple #[vN,vI 3]) E4 func87 I (.cons (.tmp I) (.cons (.tmp I) .nil)) I<|Ab (Ai I I)<|Ab (Ai I I)<|Ag I<|Ag I<|Aa<|Ar I ?_
 have p06:=Bm (α:=Ta) V0 L
 refine Au hb0 func31 I (.cons (.tmp I) (.cons (.tmp I) .nil)) I ?_
 cases h
 exact ⟨V0.ag,fun w9 hw9=>⟨vN,I,V0.kd p06 hw9⟩⟩
 refine Aq<|Ae<|Ag I<|Aa<|Aj<|Ae<|Ac I<|Ab (Bu I)<|Bk 0 I<|Bd I ((V0.memA .hd) 0 _ I)<|Ao .plain I (Does.range (D:=g0) V0 .t1 underlying124 I) fun X07 U1 X5 Q02=>Aa<|Av ?_
 have Y5:=X5.nilRow 37 (Rep.size Ta)
 refine MX.mloop (α:=(Lb Ta) × Bool × Vc × (Lb Vc) × (Array Nat)) (fun ⟨P0,z1,G0,F1,B1⟩=>[(0,vP u0),(4,G0),(19,vP U1)]) (fun G8 ⟨P0,z1,G0,F1,B1⟩ H3=>St w H3 [rr w 37 Ta G0 P0.length F1,.obj U1 (aD b0 g0.length B1),.cells u0 [.map (some b0),.bool z1] 126,.obj b0 (ay g0)]/\Tr X07 [rr w 37 Ta vN (([]:Lb Ta).length) [],.obj U1 (aD b0 g0.length #[]),.cells u0 [.map (some b0),.bool false] 126,.obj b0 (ay g0)] H3 [rr w 37 Ta G0 P0.length F1,.obj U1 (aD b0 g0.length B1),.cells u0 [.map (some b0),.bool z1] 126,.obj b0 (ay g0)]/\Cells H3 (bl [rr w 37 Ta G0 P0.length F1,.obj U1 (aD b0 g0.length B1),.cells u0 [.map (some b0),.bool z1] 126,.obj b0 (ay g0)] ++ L) F1 P0/\left g1 B1 = G8) (fun ⟨P0,z1,G0,F1,B1⟩=>(P0,z1)) (([]:Lb Ta),false,vN,[],#[]) h ⟨rfl,rfl,rfl,trivial⟩ ⟨Y5,BO _ _,(AJ (cs:=[]) (xs:=([]:Lb Ta)) Y5 L (AR _ _)),(cE _)⟩ ?_
 rintro G8 ⟨P0,z1,G0,F1,B1⟩ H3 U08 c00 ⟨C01,Y6,p7,J04⟩ g05 R03
 refine Ae<|RG.nextR (W:=g0) (BM s3 (Tt Q02 (Tt (BT X5 37 (Rep.size Ta)) Y6))) C01 .t3 (fun _=>.t1) I I J04 (fun R0d j05 H1 R02=>?_) (fun U0d E8 k0 q0a D07 x04 q06 y05 K04 Z5 U02=>?_)
 have h:=g05 j05
 try dsimp only at h
 refine Ab (Ai I I)<|Aa<|Aj<|Bv I<|Ba I<|Aj<|Ae<|Ac I<|Ab (Bu I)<|Bk 1 I<|Bd I ((H1.memA .t2) 1 _ I)<|Aa<|MX.ifb I h (fun P9 h=>?_) (fun P9 h=>?_)
 refine Ae<|Ag I<|Ag I<|Aa<|Ar I<|Au (u:=.tuple #[vN,vI 6]) E4 func87 I (.cons (.tmp I) (.cons (.tmp I) .nil)) I<|Ab (Ai I I)<|Ab (Ai I I)<|Ag I<|Ag I<|Aa<|Ar I ?_
 have s06:=Bm (α:=Ta) H1 L
 refine Au hb0 func31 I (.cons (.tmp I) (.cons (.tmp I) .nil)) I ?_
 cases h
 exact ⟨H1.ag,fun w9 hw9=>⟨vN,I,H1.kd s06 hw9⟩⟩
 refine Aq<|Ae<|Ac I<|BD (fst:=[]) (cap:=[]) (vs:=[G0,.func (.func 144) #[] #[]]) .plain (bd 143) func143 I I I I (e2 I I) I fun s0a J03 X0a=>Ae<|Ac I ?_
 have J0a:P0.length <= 4294967296:=St.rowLe (α:=Ta) H1 .hd
 obtain ⟨F08,H09,g04⟩:=St.rowV (α:=Ta) H1 .hd
 refine Ab (FV.lenV underlying24 I g04)<|Ag I<|Aa<|Am<|Ac I<|Ac I<|Ac I<|Ab (FV.convU (i:=((P0.length:Nat):Int)) underlying3 underlying193 I)<|bk h fun s9 y07 h=>Bj (vI s9) (bd 174) I (e1 I) (fun w9 hw9=>bq_c n (H1.hL0 hL hw9) (ac ((P0.length:Nat):Int)) y07) I<|Ac I<|bk h fun d9 M06 h=>RG.sort (enc:=av) (ρ:=Tryz.srt173_ren) (c:=(fun x9 y9=>ah_p n x9 y9)) (li:=s9) M06 I (fun _ _ _ _ h9=>aF h9) (fun w9 L9 z9=>aS (w:=w9) (L:=L9) z9.fm z9.fP) Tryz.srt173 (fun w9=>Tryz.isAgg37 w9) (fun w9=>Tryz.sizeOf37 w9) (enters_of func144 I I) (fun x9 y9 r9 w9 h9=>ah_c n (L:=[]) (w:=w9) (fun _ h8=>nomatch h8) x9 y9 h9) .plain (bd 173) I (e5 I I I I I) I H1 (AO p7 R02) .hd fun Y07 W2 C0a=>Aa<|MX.fin I<|Au (u:=.tuple #[]) J03 func143 I .nil I<|Aa<|Ae<|Ac I<|Ag I<|Ag I<|Aa<|Ar I<|Au (u:=.tuple #[G0,vI 0]) E4 func87 I (.cons (.tmp I) (.cons (.tmp I) .nil)) I<|Ab (Ai I I)<|Ab (Ai I I)<|Ag I<|Ag I<|Aa<|Ar I ?_
 have c4:=Bw W2 .hd
 have D0a:=Bx W2 .hd
 have t06:=By (α:=Ta) (v:=G0) (xs:=d9) c4 L (Bg (α:=Ta) W2 .hd (AJ W2 L (bF (α:=Ta) (enc:=av) (fun w9 L9 z9=>aS (w:=w9) (L:=L9) z9.fm z9.fP) Y07 _ d9)) hL)
 refine Au hb0 func31 I (.cons (.tmp I) (.cons (.tmp I) .nil)) I ?_
 cases h
 exact ⟨c4.ag,fun w9 hw9=>⟨G0,I,c4.kd t06 hw9⟩⟩
 obtain ⟨Q07,R07,rfl,z8,A8⟩:=cF q06
 have h:=R03 _ _ y05
 unfold cW at h
 try dsimp only at h
 refine Ab (Ai I I)<|Aa<|Aj<|AE I<|Aq<|Av<|Ae<|Ab (FV.entry (D:=g0) Z5 .t3 .t1 x04 I)<|Ab (Ai I I)<|Ab (Ai I I)<|RG.nl zL Z5 fun V0d u5 D01 V02=>RG.nl [.bool false,vN,.bool false,vN] D01 fun W0d v09 E01 W02=>AT (ab k0.1) E01 .t1 (ai I) fun X0d F01 X02=>?_
 have F2:=Tt U02 (Tt V02 (Tt W02 X02))
 refine AT [.bool k0.2.fj.fc,Q07,.bool k0.2.fh.fc,R07] F01 .hd (o4 I (Az (Af z8 F2)) I (Az (Af A8 F2))) fun Y0d B2 C4=>Aa<|Ae<|Ab (AA I (B2.memA .hd))<|bk h fun t0 z07 h=>Bj (.tuple #[.agg ((ab t0.1)).toArray,vI t0.2]) (bd 77) I (e1 I) (fun w9 hw9=>ac_c n (B2.hL0 hL hw9) k0.2 (B2.kd (Af z8 (Tt F2 C4)) hw9) (B2.kd (Af A8 (Tt F2 C4)) hw9) z07) I<|Ac I<|Ab (Ai I I)<|Ab (Ai I I)<|RG.nl zL B2 fun Z0d v5 G01 Y02=>AT (ab t0.1) G01 .hd (ai I) fun b0e g4 Z02=>Ag I<|Aa<|Aj<|Ae<|Ac I<|Ab (BB (i:=t0.2) (j:=0) I I)<|Aa<|MX.jo (α:=Bool) (fun k2=>[(0,vP u0),(4,G0),(19,vP U1),(5,vP u5),(7,vP v5)]) (fun k2=>[.cells v5 (ab t0.1) 34,.cells u5 (ab k0.1) 34,rr w 37 Ta G0 P0.length F1,.obj U1 (aD b0 g0.length (B1.push E8)),.cells u0 [.map (some b0),.bool k2] 126,.obj b0 (ay g0)]) (fun k2=>k2) g4 h ?_ ?_
 rintro k2 u0e j4 b03 h
 try dsimp only at h
 refine Am<|Ac I<|Ab (AA I (j4.memA .t1))<|Ab (AA I (j4.memA .hd))<|Ab (AS (vs:=[.agg ((ab k0.1)).toArray,.agg ((ab t0.1)).toArray]) (u:=.agg ((ab k0.1 ++ ab t0.1)).toArray) (e2 I I) (fun w9=>by kernel_rfl))<|Ao .plain I (AV (α:=Ta) (xs:=([(⟨k0.1,t0.1⟩:Ta)]:Lb Ta)) (vs:=[.agg ((ab k0.1 ++ ab t0.1)).toArray]) (ds' :=(ab k0.1 ++ ab t0.1)) I j4 cJ I (e1 I) (by kernel_rfl) I) fun c0e x09 k4 c03=>bk h fun g08 P06 h=>?_
 have J7:=Tt F2 (Tt C4 (Tt Y02 (Tt Z02 (Tt b03 c03))))
 refine BA .plain I (Bl (α:=Ta) (ys:=([(⟨k0.1,t0.1⟩:Ta)]:Lb Ta)) P06 k4 (fun _ _=>.t3) cJ I I (AO p7 J7) (BH (α:=Ta) k4 .hd (AJ (cs:=(ab k0.1 ++ ab t0.1)) (xs:=(([(⟨k0.1,t0.1⟩:Ta)]:Lb Ta):Lb Ta)) k4 L (AC (cs:=(ab k0.1 ++ ab t0.1)) (ds:=[]) (aS k0.1 t0.1) (AR _ _))))) fun U07 d0e ⟨X9,H01,d03,P03⟩=>Ag I<|Aa<|Aw ?_
 obtain ⟨I01,Z6⟩:=AB H01 .d3
 exact c00 D07 (g08,k2,U07,X9,(B1.push E8)) _ _ ⟨I,I,I,trivial⟩ ⟨I01,(Tt Y6 (Tt J7 (Tt d03 Z6))),(AO P03 Z6),K04⟩ h
 intro V08 C5 h
 try dsimp only at h
 refine BI I h (fun Q9 h=>?_) (fun Q9 h=>?_)
 refine Aq ?_
 obtain ⟨J01,g03⟩:=AB g4 (.a0 .d1)
 exact C5 z1 J01 g03 h
 refine Am<|Ac I<|Ab (Bu I)<|Bk 1 I<|RG.now .plain (BS (j:=1) (old:=[.map (some b0),.bool z1]) (news:=[.bool true]) (new' :=[.map (some b0),.bool true]) g4 .t5 I I I I I I (o1 I) I) fun g0e K01 j03=>Aa ?_
 obtain ⟨M01,k03⟩:=AB K01 (.a0 .d1)
 exact C5 true M01 (Tt j03 k03) h
 refine Ae<|Ag I<|Ag I<|Aa<|Ar I ?_
 have u06:=Bm (α:=Ta) v1 L
 refine Au hb0 func31 I (.cons (.tmp I) (.cons (.tmp I) .nil)) I ?_
 cases h
 exact ⟨v1.ag,fun w9 hw9=>⟨vN,I,v1.kd u06 hw9⟩⟩
 refine Ap<|Ap<|Br I I<|Ac I<|Ap<|Ap<|Ap<|Ap<|Ap<|Br I I<|Aa<|AE I<|Ae<|Ag I<|Ag I<|Aa<|Ar I ?_
 have v06:=Bm (α:=Ta) hS0 L
 refine Au hb0 func31 I (.cons (.tmp I) (.cons (.tmp I) .nil)) I ?_
 cases h
 exact ⟨hS0.ag,fun w9 hw9=>⟨vN,I,hS0.kd v06 hw9⟩⟩
 refine Ae<|Ac I<|Ag I<|Ag I<|Aa<|Ar I ?_
 have x06:=Bm (α:=Ta) hS0 L
 refine Au hb0 func31 I (.cons (.tmp I) (.cons (.tmp I) .nil)) I ?_
 cases h
 exact ⟨hS0.ag,fun w9 hw9=>⟨vN,I,hS0.kd x06 hw9⟩⟩

theorem gu:ElT Tryz.prog 102 26 (Rep.size (Int × Int)) 16 (.agg #[vI 0,vI 0]) [vI 0,vI 0]:=⟨underlying102,by kernel_rfl,rfl,rfl,rfl,rfl⟩
def cu_p (n:Nat):Oa Bool:=
  (ax_p n (2:Int) ([((0:Int),(1:Int)),((2:Int),(1:Int))]:Lb (Int × Int))).bind fun b0=>(ax_p n (1:Int) ([((2:Int),(1:Int))]:Lb (Int × Int))).bind fun j0=>jn (fun D0=>(ai_p n (1:Int) (1:Int)).bind fun F0=>(cP_p n b0 F0).bind fun g0=>jn (fun E0=>(if E0 = true then (ax_p n (6:Int) ([((0:Int),(1:Int)),((2:Int),(5:Int))]:Lb (Int × Int))).bind fun G0=>(ai_p n (1:Int) (3:Int)).bind fun H0=>(ai_p n (2:Int) (3:Int)).bind fun I0=>(bB_p n ([b0,j0]:Lb (Lb Ta)) ([H0,I0]:Lb Tb)).bind fun k0=>(aZ_p n k0.1 k0.2 G0).bind fun J0=>(if J0 = true then (bS_p n b0 j0).bind fun p0=>(bc_p n p0.1 p0.2 (1:Int) (2:Int)).bind fun K0=>some K0 else some false) else some false)) (fun c0=>(if D0 = true then (cS_p n b0).bind fun q0=>(bc_p n q0.1 q0.2 (1:Int) (2:Int)).bind fun M0=>(if M0 = true then (bR_p n b0).bind fun s0=>(bc_p n s0.1 s0.2 (1:Int) (4:Int)).bind fun P0=>(if P0 = true then (ai_p n (1:Int) (2:Int)).bind fun Q0=>(if g0.1 = Q0 then (ai_p n (1:Int) (2:Int)).bind fun R0=>(if g0.2.1 = R0 then (if g0.2.2 = 0 then (ai_p n (1:Int) (2:Int)).bind fun U0=>(bL_p n b0 U0).bind fun t0=>(bc_p n t0.1 t0.2 (0:Int) (1:Int)).bind fun V0=>(if V0 = true then (ai_p n (2:Int) (3:Int)).bind fun W0=>(bL_p n b0 W0).bind fun u0=>(bc_p n u0.1 u0.2 (1:Int) (1:Int)).bind fun X0=>(if X0 = true then (ai_p n (0:Int) (1:Int)).bind fun Y0=>(bL_p n b0 Y0).bind fun v0=>(cw_p n v0.1 v0.2 (2:Int)).bind fun Z0=>c0 Z0 else c0 false) else c0 false) else c0 false) else c0 false) else c0 false) else c0 false) else c0 false) else c0 false))) (fun d0=>(ax_p n (3:Int) ([((2:Int),(1:Int)),((6:Int),(2:Int))]:Lb (Int × Int))).bind fun b1=>(ai_p n (3:Int) (1:Int)).bind fun c1=>(ai_p n (1:Int) (1:Int)).bind fun d1=>(ai_p n (3:Int) (1:Int)).bind fun g1=>(cC_p n ([c1,d1,g1]:Lb Tb)).bind fun x0=>(aZ_p n x0.1 x0.2 b1).bind fun j1=>(if j1 = true then (cC_p n ([]:Lb Tb)).bind fun y0=>(cA_p n y0.1 y0.2 (4:Int)).bind fun k1=>(if k1 = true then (aQ_p n ([]:Lb Ta)).bind fun p1=>(if p1 = 50 then (ax_p n (4:Int) ([((0:Int),(1:Int)),((2:Int),(2:Int)),((4:Int),(1:Int))]:Lb (Int × Int))).bind fun q1=>(bp_p n b0 b0).bind fun z0=>(aZ_p n z0.1 z0.2 q1).bind fun s1=>(if s1 = true then (ax_p n (2:Int) ([((-4:Int),(1:Int)),((0:Int),(1:Int))]:Lb (Int × Int))).bind fun t1=>(ai_p n (-2:Int) (1:Int)).bind fun u1=>(aJ_p n b0 u1).bind fun A0=>(aZ_p n A0.1 A0.2 t1).bind fun v1=>(if v1 = true then (ax_p n (1:Int) ([((0:Int),(1:Int))]:Lb (Int × Int))).bind fun x1=>(ai_p n (0:Int) (1:Int)).bind fun y1=>(aJ_p n b0 y1).bind fun B0=>(aZ_p n B0.1 B0.2 x1).bind fun z1=>(if z1 = true then (ax_p n (2:Int) ([((1:Int),(1:Int)),((3:Int),(1:Int))]:Lb (Int × Int))).bind fun A1=>(ai_p n (1:Int) (2:Int)).bind fun B1=>(aO_p n b0 B1).bind fun C0=>(aZ_p n C0.1 C0.2 A1).bind fun C1=>d0 C1 else d0 false) else d0 false) else d0 false) else d0 false) else d0 false) else d0 false))
theorem cu_c (n:Nat) {L w} (hL:hl L w)  {r:Bool} (h:cu_p n = some r) :
 Cl 12 #[] w (aj w fun _ u=>u = .bool r):=by
 unfold cu_p at h
 refine AL func12 I I I fun _ cs0 hb0=>Ae<|Ag I<|Aa<|Ae<|Ab (AS (vs:=[vI 0,vI 1]) (u:=.agg #[vI 0,vI 1]) (e2 I I) (fun w9=>by kernel_rfl))<|Ab (AS (vs:=[vI 2,vI 1]) (u:=.agg #[vI 2,vI 1]) (e2 I I) (fun w9=>by kernel_rfl))<|Ao .plain I (AV (α:=Int × Int) (xs:=([((0:Int),(1:Int)),((2:Int),(1:Int))]:Lb (Int × Int))) (vs:=[.agg #[vI 0,vI 1],.agg #[vI 2,vI 1]]) (ds' :=[vI 0,vI 1,vI 2,vI 1]) I (AK w) gu I (e2 I I) (by kernel_rfl) I) fun w11 s5 V1 J00=>?_
 have E2:=Bw V1 .hd
 have K00:=Bx V1 .hd
 refine bk h fun E3 c8 h=>jE (bd 13) I (e2 I I) (fun w9 hw9=>ax_c n (E2.hL hL hw9) (Ah (By (α:=Int × Int) (v:=(vS s5 2)) (xs:=([((0:Int),(1:Int)),((2:Int),(1:Int))]:Lb (Int × Int))) E2 L (Bg (α:=Int × Int) V1 .hd (AJ (cs:=[vI 0,vI 1,vI 2,vI 1]) (xs:=(([((0:Int),(1:Int)),((2:Int),(1:Int))]:Lb (Int × Int)):Lb (Int × Int))) V1 L (AC (cs:=[vI 0,vI 1]) (ds:=[vI 2,vI 1]) (bG (0:Int) (1:Int)) (AC (cs:=[vI 2,vI 1]) (ds:=[]) (bG (2:Int) (1:Int)) (AR _ _)))) hL)) hw9) c8) I fun w21 c1 b7 ⟨v26,hu_,g0⟩=>?_
 subst hu_
 obtain ⟨b6,M00⟩:=E2.agr b7
 refine Ag I<|Aa<|Ae<|Ab (AS (vs:=[vI 2,vI 1]) (u:=.agg #[vI 2,vI 1]) (e2 I I) (fun w9=>by kernel_rfl))<|Ao .plain I (AV (α:=Int × Int) (xs:=([((2:Int),(1:Int))]:Lb (Int × Int))) (vs:=[.agg #[vI 2,vI 1]]) (ds' :=[vI 2,vI 1]) I b6 gu I (e1 I) (by kernel_rfl) I) fun w29 u5 X1 X3=>?_
 have F2:=Bw X1 .hd
 have Y3:=Bx X1 .hd
 refine bk h fun F3 j8 h=>jE (bd 13) I (e2 I I) (fun w9 hw9=>ax_c n (F2.hL hL hw9) (Ah (By (α:=Int × Int) (v:=(vS u5 1)) (xs:=([((2:Int),(1:Int))]:Lb (Int × Int))) F2 L (Bg (α:=Int × Int) X1 .hd (AJ (cs:=[vI 2,vI 1]) (xs:=(([((2:Int),(1:Int))]:Lb (Int × Int)):Lb (Int × Int))) X1 L (AC (cs:=[vI 2,vI 1]) (ds:=[]) (bG (2:Int) (1:Int)) (AR _ _))) hL)) hw9) j8) I fun w39 U0 c7 ⟨v44,hu_,D3⟩=>?_
 subst hu_
 obtain ⟨U3,g4⟩:=F2.agr c7
 refine Ag I<|Aa<|Aj<|MX.jo (α:=Bool) (fun v1=>[(1,c1),(2,U0),(3,.bool v1)]) (fun v1=>[]) (fun v1=>v1) U3 h ?_ ?_
 rintro v1 X02 W1 W3 h
 try dsimp only at h
 refine Ae<|Ac I<|bk h fun Y4 d8 h=>Bj (.agg ((ab Y4)).toArray) (bd 15) I (e2 I I) (fun w9 hw9=>ai_c n (W1.hL0 hL hw9)  d8) I<|bk h fun t0 g8 h=>?_
 have y3:=Tt X3 (Tt Y3 (Tt g4 W3))
 refine Bj (.tuple #[.agg ((ab t0.1)).toArray,.agg ((ab t0.2.1)).toArray,vI t0.2.2]) (bd 27) I (e2 I I) (fun w9 hw9=>cP_c n (W1.hL0 hL hw9) (W1.kd (Af g0 y3) hw9) Y4 g8) I<|Ac I<|Ab (Ai I I)<|Ab (Ai I I)<|Ab (Ai I I)<|RG.nl zL W1 fun p02 F00 c6 g3=>RG.nl zL c6 fun q02 G00 d6 j3=>AT (ab t0.1) d6 .t1 (ai I) fun s02 g6 k3=>AT (ab t0.2.1) g6 .hd (ai I) fun H9 d1 p3=>Ag I<|Aa<|Aj<|MX.jo (α:=Bool) (fun x1=>[(1,c1),(2,U0),(3,.bool x1)]) (fun x1=>[]) (fun x1=>x1) d1 h ?_ ?_
 rintro x1 Y02 R3 Z3 h
 try dsimp only at h
 refine Ae<|Ac I<|Ac I<|RG.ifb (s:=156) I h (fun F5 h=>?_) (fun F5 h=>?_)
 refine AM (AS (vs:=[vI 0,vI 1]) (u:=.agg #[vI 0,vI 1]) (e2 I I) (fun w9=>by kernel_rfl))<|AM (AS (vs:=[vI 2,vI 5]) (u:=.agg #[vI 2,vI 5]) (e2 I I) (fun w9=>by kernel_rfl))<|Ao (.yes I I) I (AV (α:=Int × Int) (xs:=([((0:Int),(1:Int)),((2:Int),(5:Int))]:Lb (Int × Int))) (vs:=[.agg #[vI 0,vI 1],.agg #[vI 2,vI 5]]) (ds' :=[vI 0,vI 1,vI 2,vI 5]) I R3 gu I (e2 I I) (by kernel_rfl) I) fun u02 v5 Y1 b4=>?_
 have G2:=Bw Y1 .hd
 have c4:=Bx Y1 .hd
 refine bk h fun Z9 k8 h=>Ay (fst:=[]) (cap:=[]) (.yes I I) (bd 13) I (e2 I I) (fun w9 hw9=>ax_c n (G2.hL hL hw9) (Ah (By (α:=Int × Int) (v:=(vS v5 2)) (xs:=([((0:Int),(1:Int)),((2:Int),(5:Int))]:Lb (Int × Int))) G2 L (Bg (α:=Int × Int) Y1 .hd (AJ (cs:=[vI 0,vI 1,vI 2,vI 5]) (xs:=(([((0:Int),(1:Int)),((2:Int),(5:Int))]:Lb (Int × Int)):Lb (Int × Int))) Y1 L (AC (cs:=[vI 0,vI 1]) (ds:=[vI 2,vI 5]) (bG (0:Int) (1:Int)) (AC (cs:=[vI 2,vI 5]) (ds:=[]) (bG (2:Int) (5:Int)) (AR _ _)))) hL)) hw9) k8) I fun I9 B9 d7 ⟨k01,hu_,A4⟩=>?_
 subst hu_
 obtain ⟨H2,d4⟩:=G2.agr d7
 refine Ay (fst:=[]) (cap:=[]) (.yes I I) (bd 28) I (e1 I) (fun w9 hw9=>Calls.gives (cI_c n (H2.hL hL hw9) Z9 (Ah A4 hw9)) fun (w8:World) (u8:Vc) ⟨b0_,hu_,s_⟩=>(⟨b0_,hu_,s_.from hw9⟩:∃ y1:Nat,u8 = Value.func (.func 91) #[] #[vP y1]/\St I9 w8 [.cells y1 [B9] 24])) I fun v02 E01 P00 ⟨y1,H7,G4⟩=>?_
 subst H7
 have q3:=dO H2 G4
 refine AM (Al I)<|AM (Al I) ?_
 have z3:=Tt y3 (Tt g3 (Tt j3 (Tt k3 (Tt p3 (Tt Z3 (Tt b4 (Tt c4 (Tt d4 q3))))))))
 have A3:=Tt W3 (Tt g3 (Tt j3 (Tt k3 (Tt p3 (Tt Z3 (Tt b4 (Tt c4 (Tt d4 q3))))))))
 obtain ⟨B00,H00,Z7,_⟩:=Bi (Af g0 z3)
 obtain ⟨C00,I00,b8,_⟩:=Bi (Af D3 A3)
 refine Ao (.yes I I) I (AV (α:=Lb Ta) (xs:=([E3,F3]:Lb (Lb Ta))) (vs:=[c1,U0]) (ds' :=[c1,U0]) I (ca H2 G4) mc I (e2 I I) (by rw [Z7,b8]; try kernel_rfl) I) fun x02 x5 Z1 j1=>bk h fun u0 p8 h=>BG (v:=.agg ((ab u0)).toArray) (fst:=[]) (cap:=[]) (.yes I I) (bd 15) I (e2 I I) (fun w9 hw9=>ai_c n (Z1.hL0 hL hw9)  p8) I<|bk h fun k0 q8 h=>BG (v:=.agg ((ab k0)).toArray) (fst:=[]) (cap:=[]) (.yes I I) (bd 15) I (e2 I I) (fun w9 hw9=>ai_c n (Z1.hL0 hL hw9)  q8) I<|Ao (.yes I I) I (AV (α:=Tb) (xs:=([u0,k0]:Lb Tb)) (vs:=[.agg ((ab u0)).toArray,.agg ((ab k0)).toArray]) (ds' :=(ab u0 ++ ab k0)) I Z1 iZ I (e2 I I) (by kernel_rfl) I) fun y02 y5 b2 t2=>?_
 have c2:=Bw b2 .t1
 have u2:=Bx b2 .t1
 have I2:=Bw c2 .hd
 have v2:=Bx c2 .hd
 refine bk h fun Z02 s8 h=>Ay (fst:=[]) (cap:=[]) (.yes I I) (bd 31) I (e2 I I) (fun w9 hw9=>bB_c n (I2.hL hL hw9) (Ah (Af (By (α:=Lb Ta) (v:=(vS x5 2)) (xs:=([E3,F3]:Lb (Lb Ta))) c2 L (Bg (α:=Lb Ta) b2 .t1 (AO (AJ (cs:=[c1,U0]) (xs:=(([E3,F3]:Lb (Lb Ta)):Lb (Lb Ta))) Z1 L (AC (cs:=[c1]) (ds:=[U0]) (Af g0 (Tt z3 j1)) (AC (cs:=[U0]) (ds:=[]) (Af D3 (Tt A3 j1)) (AR _ _)))) t2) hL)) v2) hw9) (Ah (By (α:=Tb) (v:=(vS y5 2)) (xs:=([u0,k0]:Lb Tb)) I2 L (Bg (α:=Tb) c2 .hd (AO (AJ (cs:=(ab u0 ++ ab k0)) (xs:=(([u0,k0]:Lb Tb):Lb Tb)) b2 L (AC (cs:=(ab u0)) (ds:=(ab k0)) (dn u0.fN u0.fD) (AC (cs:=(ab k0)) (ds:=[]) (dn k0.fN k0.fD) (AR _ _)))) u2) hL)) hw9) s8) I fun J9 F01 g7 ⟨q01,hu_,A7⟩=>?_
 subst hu_
 obtain ⟨F0,s3⟩:=I2.agr g7
 refine AM (Ai I I)<|AM (Ai I I)<|bk h fun b00 t8 h=>BG (v:=.bool b00) (fst:=[]) (cap:=[vP y1]) (.yes I I) (bd 91) I (e2 I I) (fun w9 hw9=>aZ_c n (F0.hL0 hL hw9) (F0.kd A7 hw9) (F0.kd (Af A4 (Tt q3 (Tt j1 (Tt t2 (Tt u2 (Tt v2 s3)))))) hw9) (aI hw9 (F0.memA .hd)) t8) I<|Br I I<|Ac I<|RG.ifb (s:=173) I h (fun G5 h=>?_) (fun G5 h=>?_)
 refine Ay (fst:=[]) (cap:=[]) (.yes I I) (bd 30) I (e2 I I) (fun w9 hw9=>Calls.gives (cL_c n (F0.hL hL hw9) (1:Int) (2:Int)) fun (w8:World) (u8:Vc) ⟨b0_,b1_,hu_,s_⟩=>(⟨b0_,b1_,hu_,s_.from hw9⟩:∃ z1 A1:Nat,u8 = Value.func (.func 92) #[] #[vP z1,vP A1]/\St J9 w8 [.cells z1 [vI 1] 3,.cells A1 [vI 2] 3])) I fun z02 G01 Q00 ⟨z1,A1,I7,H4⟩=>?_
 subst I7
 have M0:=dN F0 H4
 have j4:=iQ F0 H4
 refine AM (Al I)<|AM (Al I)<|bk h fun G3 v8 h=>BG (v:=.tuple #[.agg ((ab G3.1)).toArray,vI G3.2]) (fst:=[]) (cap:=[]) (.yes I I) (bd 25) I (e2 I I) (fun w9 hw9=>bS_c n (M0.hL0 hL hw9) (M0.kd (Af g0 (Tt z3 (Tt j1 (Tt t2 (Tt u2 (Tt v2 (Tt s3 j4))))))) hw9) (M0.kd (Af D3 (Tt A3 (Tt j1 (Tt t2 (Tt u2 (Tt v2 (Tt s3 j4))))))) hw9) v8) I<|AM (Ai I I)<|AM (Ai I I)<|bk h fun c00 x8 h=>BG (v:=.bool c00) (fst:=[]) (cap:=[vP z1,vP A1]) (.yes I I) (bd 92) I (e2 I I) (fun w9 hw9=>bc_c n (M0.hL0 hL hw9) G3.1 (aI hw9 (M0.memA .hd)) (aI hw9 (M0.memA .t1)) x8) I<|Br I I<|Ag I<|Aa<|Ar I<|Bb hb0 func12 I I ?_
 cases h
 exact M0.gv
 refine Ap<|Ap<|Ap<|Ap<|Ap<|Ap<|Ap<|Bs I I<|Ag I<|Aa<|Ar I<|Bb hb0 func12 I I ?_
 cases h
 exact F0.gv
 refine Ap<|Ap<|Ap<|Ap<|Ap<|Ap<|Ap<|Ap<|Ap<|Ap<|Ap<|Ap<|Ap<|Ap<|Ap<|Bs I I<|Ac I<|Ap<|Ap<|Ap<|Ap<|Ap<|Ap<|Ap<|Bs I I<|Ag I<|Aa<|Ar I<|Bb hb0 func12 I I ?_
 cases h
 exact R3.gv
 intro E00 x0 h
 try dsimp only at h
 refine du 59 fun b0 c0=>Rv 0 b0 I c0 (fun _=>Al I)<|Rv 1 b0 I c0 (fun _=>Al I)<|RD.ifb (s:=98) I h (fun H5 h=>?_) (fun H5 h=>?_)
 refine BQ 3 11 b0 I c0 (.yes I I) (fun _=>Al I) I<|AZ 2 15 b0 I (.yes I I) (bd 30) I (e2 I I) (fun w9 hw9=>Calls.gives (cL_c n (d1.hL hL hw9) (1:Int) (2:Int)) fun (w8:World) (u8:Vc) ⟨b0_,b1_,hu_,s_⟩=>(⟨b0_,b1_,hu_,s_.from hw9⟩:∃ B1 C1:Nat,u8 = Value.func (.func 92) #[] #[vP B1,vP C1]/\St H9 w8 [.cells B1 [vI 1] 3,.cells C1 [vI 2] 3])) I fun K9 H01 R00 ⟨B1,C1,J7,I4⟩=>?_
 subst J7
 have y0:=dN d1 I4
 have z0:=iQ d1 I4
 refine bk h fun H3 y8 h=>?_
 have B3:=Tt y3 (Tt g3 (Tt j3 (Tt k3 (Tt p3 z0))))
 refine RD.callq (i:=4) (m' :=31) (W:=576460752303423456) (tk b0) I c0 (v:=.tuple #[.agg ((ab H3.1)).toArray,vI H3.2]) (fst:=[]) (cap:=[]) (.yes I I) (bd 19) I (e1 I) (fun w9 hw9=>cS_c n (y0.hL0 hL hw9) (y0.kd (Af g0 B3) hw9) y8) I<|BQ 5 63 b0 I c0 (.yes I I) (fun _=>Ai I I) I<|BQ 6 127 b0 I c0 (.yes I I) (fun _=>Ai I I) I<|bk h fun d00 z8 h=>RD.callq (i:=7) (m' :=255) (W:=576460752303423232) (tk b0) I c0 (v:=.bool d00) (fst:=[]) (cap:=[vP B1,vP C1]) (.yes I I) (bd 92) I (e2 I I) (fun w9 hw9=>bc_c n (y0.hL0 hL hw9) H3.1 (aI hw9 (y0.memA .hd)) (aI hw9 (y0.memA .t1)) z8) I<|Rv 8 b0 I c0 (fun _=>BU I I)<|Rv 9 b0 I c0 (fun _=>Al I)<|RD.ifb (s:=106) I h (fun I5 h=>?_) (fun I5 h=>?_)
 refine BQ 11 3071 b0 I c0 (.yes I I) (fun _=>Al I) I<|AZ 10 4095 b0 I (.yes I I) (bd 30) I (e2 I I) (fun w9 hw9=>Calls.gives (cL_c n (y0.hL hL hw9) (1:Int) (4:Int)) fun (w8:World) (u8:Vc) ⟨b0_,b1_,hu_,s_⟩=>(⟨b0_,b1_,hu_,s_.from hw9⟩:∃ D1 E1:Nat,u8 = Value.func (.func 92) #[] #[vP D1,vP E1]/\St K9 w8 [.cells D1 [vI 1] 3,.cells E1 [vI 4] 3])) I fun M9 I01 U00 ⟨D1,E1,K7,J4⟩=>?_
 subst K7
 have d0:=dN y0 J4
 have A0:=iQ y0 J4
 refine bk h fun I3 A8 h=>RD.callq (i:=12) (m' :=8191) (W:=576460752303415296) (tk b0) I c0 (v:=.tuple #[.agg ((ab I3.1)).toArray,vI I3.2]) (fst:=[]) (cap:=[]) (.yes I I) (bd 20) I (e1 I) (fun w9 hw9=>bR_c n (d0.hL0 hL hw9) (d0.kd (Af g0 (Tt B3 A0)) hw9) A8) I<|BQ 13 16383 b0 I c0 (.yes I I) (fun _=>Ai I I) I<|BQ 14 32767 b0 I c0 (.yes I I) (fun _=>Ai I I) I<|bk h fun g00 B8 h=>RD.callq (i:=15) (m' :=65535) (W:=576460752303357952) (tk b0) I c0 (v:=.bool g00) (fst:=[]) (cap:=[vP D1,vP E1]) (.yes I I) (bd 92) I (e2 I I) (fun w9 hw9=>bc_c n (d0.hL0 hL hw9) I3.1 (aI hw9 (d0.memA .hd)) (aI hw9 (d0.memA .t1)) B8) I<|Rv 16 b0 I c0 (fun _=>BU I I)<|Rv 17 b0 I c0 (fun _=>Al I)<|RD.ifb (s:=114) I h (fun J5 h=>?_) (fun J5 h=>?_)
 refine RD.val (i:=18) (m' :=524287) (W:=576460752302374912) (tk b0) I c0 (.yes I I) (AA I (d0.memA .t5)) I<|bk h fun J3 C8 h=>RD.callq (i:=19) (m' :=1048575) (W:=576460752302374912) (tk b0) I c0 (v:=.agg ((ab J3)).toArray) (fst:=[]) (cap:=[]) (.yes I I) (bd 15) I (e2 I I) (fun w9 hw9=>ai_c n (d0.hL0 hL hw9)  C8) I<|BQ 20 2097151 b0 I c0 (.yes I I) (fun _=>FV.eqlV (v:=.agg ((ab t0.1)).toArray) (u:=.agg ((ab J3)).toArray) I I (gH t0.1 J3)) I<|Rv 21 b0 I c0 (fun _=>BU I I)<|Rv 22 b0 I c0 (fun _=>Al I)<|RD.ifd (s:=119) I h (fun K5 h=>?_) (fun K5 h=>?_)
 refine RD.val (i:=23) (m' :=16777215) (W:=576460752269869056) (tk b0) I c0 (.yes I I) (AA I (d0.memA .t4)) I<|bk h fun K3 D8 h=>RD.callq (i:=24) (m' :=33554431) (W:=576460752269869056) (tk b0) I c0 (v:=.agg ((ab K3)).toArray) (fst:=[]) (cap:=[]) (.yes I I) (bd 15) I (e2 I I) (fun w9 hw9=>ai_c n (d0.hL0 hL hw9)  D8) I<|BQ 25 67108863 b0 I c0 (.yes I I) (fun _=>FV.eqlV (v:=.agg ((ab t0.2.1)).toArray) (u:=.agg ((ab K3)).toArray) I I (gH t0.2.1 K3)) I<|Rv 26 b0 I c0 (fun _=>BU I I)<|Rv 27 b0 I c0 (fun _=>Al I)<|RD.ifd (s:=124) I h (fun M5 h=>?_) (fun M5 h=>?_)
 refine BQ 28 536870911 b0 I c0 (.yes I I) (fun _=>Al I) I<|BQ 29 1073741823 b0 I c0 (.yes I I) (fun _=>FV.eql (i:=t0.2.2) (j:=0) I I) I<|Rv 30 b0 I c0 (fun _=>BU I I)<|Rv 31 b0 I c0 (fun _=>Al I)<|RD.ifd (s:=128) I h (fun P5 h=>?_) (fun P5 h=>?_)
 refine BQ 33 12884901887 b0 I c0 (.yes I I) (fun _=>Al I) I<|AZ 32 17179869183 b0 I (.yes I I) (bd 30) I (e2 I I) (fun w9 hw9=>Calls.gives (cL_c n (d0.hL hL hw9) (0:Int) (1:Int)) fun (w8:World) (u8:Vc) ⟨b0_,b1_,hu_,s_⟩=>(⟨b0_,b1_,hu_,s_.from hw9⟩:∃ F1 G1:Nat,u8 = Value.func (.func 92) #[] #[vP F1,vP G1]/\St M9 w8 [.cells F1 [vI 0] 3,.cells G1 [vI 1] 3])) I fun P9 J01 V00 ⟨F1,G1,M7,K4⟩=>?_
 subst M7
 have q0:=dN d0 K4
 have x2:=iQ d0 K4
 refine bk h fun Z4 E8 h=>RD.callq (i:=34) (m' :=34359738367) (W:=576460717943685120) (tk b0) I c0 (v:=.agg ((ab Z4)).toArray) (fst:=[]) (cap:=[]) (.yes I I) (bd 15) I (e2 I I) (fun w9 hw9=>ai_c n (q0.hL0 hL hw9)  E8) I<|bk h fun M3 F8 h=>?_
 have C3:=Tt B3 (Tt A0 x2)
 refine RD.callq (i:=35) (m' :=68719476735) (W:=576460683583946752) (tk b0) I c0 (v:=.tuple #[.agg ((ab M3.1)).toArray,vI M3.2]) (fst:=[]) (cap:=[]) (.yes I I) (bd 21) I (e2 I I) (fun w9 hw9=>bL_c n (q0.hL0 hL hw9) (q0.kd (Af g0 C3) hw9) Z4 F8) I<|BQ 36 137438953471 b0 I c0 (.yes I I) (fun _=>Ai I I) I<|BQ 37 274877906943 b0 I c0 (.yes I I) (fun _=>Ai I I) I<|bk h fun j00 G8 h=>RD.callq (i:=38) (m' :=549755813887) (W:=576460202547609600) (tk b0) I c0 (v:=.bool j00) (fst:=[]) (cap:=[vP F1,vP G1]) (.yes I I) (bd 92) I (e2 I I) (fun w9 hw9=>bc_c n (q0.hL0 hL hw9) M3.1 (aI hw9 (q0.memA .hd)) (aI hw9 (q0.memA .t1)) G8) I<|Rv 39 b0 I c0 (fun _=>BU I I)<|Rv 40 b0 I c0 (fun _=>Al I)<|RD.ifb (s:=137) I h (fun Q5 h=>?_) (fun Q5 h=>?_)
 refine BQ 42 6597069766655 b0 I c0 (.yes I I) (fun _=>Al I) I<|AZ 41 8796093022207 b0 I (.yes I I) (bd 30) I (e2 I I) (fun w9 hw9=>Calls.gives (cL_c n (q0.hL hL hw9) (1:Int) (1:Int)) fun (w8:World) (u8:Vc) ⟨b0_,b1_,hu_,s_⟩=>(⟨b0_,b1_,hu_,s_.from hw9⟩:∃ H1 I1:Nat,u8 = Value.func (.func 92) #[] #[vP H1,vP I1]/\St P9 w8 [.cells H1 [vI 1] 3,.cells I1 [vI 1] 3])) I fun Q9 K01 W00 ⟨H1,I1,P7,M4⟩=>?_
 subst P7
 have s0:=dN q0 M4
 have y2:=iQ q0 M4
 refine bk h fun b5 H8 h=>RD.callq (i:=43) (m' :=17592186044415) (W:=576443160117379072) (tk b0) I c0 (v:=.agg ((ab b5)).toArray) (fst:=[]) (cap:=[]) (.yes I I) (bd 15) I (e2 I I) (fun w9 hw9=>ai_c n (s0.hL0 hL hw9)  H8) I<|bk h fun P3 I8 h=>RD.callq (i:=44) (m' :=35184372088831) (W:=576425567931334656) (tk b0) I c0 (v:=.tuple #[.agg ((ab P3.1)).toArray,vI P3.2]) (fst:=[]) (cap:=[]) (.yes I I) (bd 21) I (e2 I I) (fun w9 hw9=>bL_c n (s0.hL0 hL hw9) (s0.kd (Af g0 (Tt C3 y2)) hw9) b5 I8) I<|BQ 45 70368744177663 b0 I c0 (.yes I I) (fun _=>Ai I I) I<|BQ 46 140737488355327 b0 I c0 (.yes I I) (fun _=>Ai I I) I<|bk h fun k00 J8 h=>RD.callq (i:=47) (m' :=281474976710655) (W:=576179277326712832) (tk b0) I c0 (v:=.bool k00) (fst:=[]) (cap:=[vP H1,vP I1]) (.yes I I) (bd 92) I (e2 I I) (fun w9 hw9=>bc_c n (s0.hL0 hL hw9) P3.1 (aI hw9 (s0.memA .hd)) (aI hw9 (s0.memA .t1)) J8) I<|Rv 48 b0 I c0 (fun _=>BU I I)<|Rv 49 b0 I c0 (fun _=>Al I)<|RD.ifb (s:=146) I h (fun R5 h=>?_) (fun R5 h=>?_)
 refine BQ 51 3377699720527871 b0 I c0 (.yes I I) (fun _=>Al I) I<|AZ 50 4503599627370495 b0 I (.yes I I) (bd 18) I (e1 I) (fun w9 hw9=>Calls.gives (de_c n (s0.hL hL hw9) (2:Int)) fun (w8:World) (u8:Vc) ⟨b0_,hu_,s_⟩=>(⟨b0_,hu_,s_.from hw9⟩:∃ J1:Nat,u8 = Value.func (.func 74) #[] #[vP J1]/\St Q9 w8 [.cells J1 [vI 2] 27])) I fun A02 M01 X00 ⟨J1,Q7,P4⟩=>?_
 subst Q7
 have V0:=ca s0 P4
 have k4:=dO s0 P4
 refine bk h fun c5 K8 h=>RD.callq (i:=52) (m' :=9007199254740991) (W:=567453553048682496) (tk b0) I c0 (v:=.agg ((ab c5)).toArray) (fst:=[]) (cap:=[]) (.yes I I) (bd 15) I (e2 I I) (fun w9 hw9=>ai_c n (V0.hL0 hL hw9)  K8) I<|bk h fun Q3 M8 h=>RD.callq (i:=53) (m' :=18014398509481983) (W:=558446353793941504) (tk b0) I c0 (v:=.tuple #[.agg ((ab Q3.1)).toArray,vI Q3.2]) (fst:=[]) (cap:=[]) (.yes I I) (bd 21) I (e2 I I) (fun w9 hw9=>bL_c n (V0.hL0 hL hw9) (V0.kd (Af g0 (Tt C3 (Tt y2 k4))) hw9) c5 M8) I<|BQ 54 36028797018963967 b0 I c0 (.yes I I) (fun _=>Ai I I) I<|BQ 55 72057594037927935 b0 I c0 (.yes I I) (fun _=>Ai I I) I<|bk h fun d5 P8 h=>RD.callq (i:=56) (m' :=144115188075855871) (W:=432345564227567616) (tk b0) I c0 (v:=.bool d5) (fst:=[]) (cap:=[vP J1]) (.yes I I) (bd 74) I (e2 I I) (fun w9 hw9=>cw_c n (V0.hL0 hL hw9) Q3.1 (aI hw9 (V0.memA .hd)) P8) I<|Rv 57 b0 I c0 (fun _=>BU I I)<|Rv 58 b0 I c0 (fun _=>Bo I)<|AN (dk b0) ?_
 obtain ⟨j6,F6⟩:=AB V0 .done
 exact x0 d5 j6 (Tt z0 (Tt A0 (Tt x2 (Tt y2 (Tt k4 F6))))) h
 refine BF 144115188075855871 2 [(50,147),(51,148),(52,149),(53,150),(54,151),(55,152),(56,153)] (F:=[(146,false)]) (U:=[]) b0 c0 (.cons I .nil) .nil ?_
 dsimp only [aO,List.map]
 refine Rv 57 b0 I c0 (fun _=>Bq I I)<|Rv 58 b0 I c0 (fun _=>Bo I)<|AN (dk b0) ?_
 obtain ⟨k6,G6⟩:=AB s0 .done
 exact x0 false k6 (Tt z0 (Tt A0 (Tt x2 (Tt y2 G6)))) h
 refine BF 281474976710655 11 [(41,138),(42,139),(43,140),(44,141),(45,142),(46,143),(47,144)] (F:=[(137,false)]) (U:=[]) b0 c0 (.cons I .nil) .nil ?_
 dsimp only [aO,List.map]
 refine Rv 48 b0 I c0 (fun _=>Bq I I)<|Rv 49 b0 I c0 (fun _=>Al I)<|BF 144115188075855871 2 [(50,147),(51,148),(52,149),(53,150),(54,151),(55,152),(56,153)] (F:=[(146,false)]) (U:=[]) b0 c0 (.cons I .nil) .nil ?_
 dsimp only [aO,List.map]
 refine Rv 57 b0 I c0 (fun _=>Bq I I)<|Rv 58 b0 I c0 (fun _=>Bo I)<|AN (dk b0) ?_
 obtain ⟨p6,H6⟩:=AB q0 .done
 exact x0 false p6 (Tt z0 (Tt A0 (Tt x2 H6))) h
 refine BF 549755813887 20 [(32,129),(33,130),(34,131),(35,132),(36,133),(37,134),(38,135)] (F:=[(128,false)]) (U:=[]) b0 c0 (.cons I .nil) .nil ?_
 dsimp only [aO,List.map]
 refine Rv 39 b0 I c0 (fun _=>Bq I I)<|Rv 40 b0 I c0 (fun _=>Al I)<|BF 281474976710655 11 [(41,138),(42,139),(43,140),(44,141),(45,142),(46,143),(47,144)] (F:=[(137,false)]) (U:=[]) b0 c0 (.cons I .nil) .nil ?_
 dsimp only [aO,List.map]
 refine Rv 48 b0 I c0 (fun _=>Bq I I)<|Rv 49 b0 I c0 (fun _=>Al I)<|BF 144115188075855871 2 [(50,147),(51,148),(52,149),(53,150),(54,151),(55,152),(56,153)] (F:=[(146,false)]) (U:=[]) b0 c0 (.cons I .nil) .nil ?_
 dsimp only [aO,List.map]
 refine Rv 57 b0 I c0 (fun _=>Bq I I)<|Rv 58 b0 I c0 (fun _=>Bo I)<|AN (dk b0) ?_
 obtain ⟨q6,I6⟩:=AB d0 .done
 exact x0 false q6 (Tt z0 (Tt A0 I6)) h
 refine BF 1073741823 29 [(28,125),(29,126)] (F:=[(124,false)]) (U:=[]) b0 c0 (.cons I .nil) .nil ?_
 dsimp only [aO,List.map]
 refine Rv 30 b0 I c0 (fun _=>Bq I I)<|Rv 31 b0 I c0 (fun _=>Al I)<|BF 549755813887 20 [(32,129),(33,130),(34,131),(35,132),(36,133),(37,134),(38,135)] (F:=[(128,false)]) (U:=[]) b0 c0 (.cons I .nil) .nil ?_
 dsimp only [aO,List.map]
 refine Rv 39 b0 I c0 (fun _=>Bq I I)<|Rv 40 b0 I c0 (fun _=>Al I)<|BF 281474976710655 11 [(41,138),(42,139),(43,140),(44,141),(45,142),(46,143),(47,144)] (F:=[(137,false)]) (U:=[]) b0 c0 (.cons I .nil) .nil ?_
 dsimp only [aO,List.map]
 refine Rv 48 b0 I c0 (fun _=>Bq I I)<|Rv 49 b0 I c0 (fun _=>Al I)<|BF 144115188075855871 2 [(50,147),(51,148),(52,149),(53,150),(54,151),(55,152),(56,153)] (F:=[(146,false)]) (U:=[]) b0 c0 (.cons I .nil) .nil ?_
 dsimp only [aO,List.map]
 refine Rv 57 b0 I c0 (fun _=>Bq I I)<|Rv 58 b0 I c0 (fun _=>Bo I)<|AN (dk b0) ?_
 obtain ⟨s6,J6⟩:=AB d0 .done
 exact x0 false s6 (Tt z0 (Tt A0 J6)) h
 refine BF 67108863 33 [(23,120),(24,121),(25,122)] (F:=[(119,false)]) (U:=[]) b0 c0 (.cons I .nil) .nil ?_
 dsimp only [aO,List.map]
 refine Rv 26 b0 I c0 (fun _=>Bq I I)<|Rv 27 b0 I c0 (fun _=>Al I)<|BF 1073741823 29 [(28,125),(29,126)] (F:=[(124,false)]) (U:=[]) b0 c0 (.cons I .nil) .nil ?_
 dsimp only [aO,List.map]
 refine Rv 30 b0 I c0 (fun _=>Bq I I)<|Rv 31 b0 I c0 (fun _=>Al I)<|BF 549755813887 20 [(32,129),(33,130),(34,131),(35,132),(36,133),(37,134),(38,135)] (F:=[(128,false)]) (U:=[]) b0 c0 (.cons I .nil) .nil ?_
 dsimp only [aO,List.map]
 refine Rv 39 b0 I c0 (fun _=>Bq I I)<|Rv 40 b0 I c0 (fun _=>Al I)<|BF 281474976710655 11 [(41,138),(42,139),(43,140),(44,141),(45,142),(46,143),(47,144)] (F:=[(137,false)]) (U:=[]) b0 c0 (.cons I .nil) .nil ?_
 dsimp only [aO,List.map]
 refine Rv 48 b0 I c0 (fun _=>Bq I I)<|Rv 49 b0 I c0 (fun _=>Al I)<|BF 144115188075855871 2 [(50,147),(51,148),(52,149),(53,150),(54,151),(55,152),(56,153)] (F:=[(146,false)]) (U:=[]) b0 c0 (.cons I .nil) .nil ?_
 dsimp only [aO,List.map]
 refine Rv 57 b0 I c0 (fun _=>Bq I I)<|Rv 58 b0 I c0 (fun _=>Bo I)<|AN (dk b0) ?_
 obtain ⟨t6,K6⟩:=AB d0 .done
 exact x0 false t6 (Tt z0 (Tt A0 K6)) h
 refine BF 2097151 38 [(18,115),(19,116),(20,117)] (F:=[(114,false)]) (U:=[]) b0 c0 (.cons I .nil) .nil ?_
 dsimp only [aO,List.map]
 refine Rv 21 b0 I c0 (fun _=>Bq I I)<|Rv 22 b0 I c0 (fun _=>Al I)<|BF 67108863 33 [(23,120),(24,121),(25,122)] (F:=[(119,false)]) (U:=[]) b0 c0 (.cons I .nil) .nil ?_
 dsimp only [aO,List.map]
 refine Rv 26 b0 I c0 (fun _=>Bq I I)<|Rv 27 b0 I c0 (fun _=>Al I)<|BF 1073741823 29 [(28,125),(29,126)] (F:=[(124,false)]) (U:=[]) b0 c0 (.cons I .nil) .nil ?_
 dsimp only [aO,List.map]
 refine Rv 30 b0 I c0 (fun _=>Bq I I)<|Rv 31 b0 I c0 (fun _=>Al I)<|BF 549755813887 20 [(32,129),(33,130),(34,131),(35,132),(36,133),(37,134),(38,135)] (F:=[(128,false)]) (U:=[]) b0 c0 (.cons I .nil) .nil ?_
 dsimp only [aO,List.map]
 refine Rv 39 b0 I c0 (fun _=>Bq I I)<|Rv 40 b0 I c0 (fun _=>Al I)<|BF 281474976710655 11 [(41,138),(42,139),(43,140),(44,141),(45,142),(46,143),(47,144)] (F:=[(137,false)]) (U:=[]) b0 c0 (.cons I .nil) .nil ?_
 dsimp only [aO,List.map]
 refine Rv 48 b0 I c0 (fun _=>Bq I I)<|Rv 49 b0 I c0 (fun _=>Al I)<|BF 144115188075855871 2 [(50,147),(51,148),(52,149),(53,150),(54,151),(55,152),(56,153)] (F:=[(146,false)]) (U:=[]) b0 c0 (.cons I .nil) .nil ?_
 dsimp only [aO,List.map]
 refine Rv 57 b0 I c0 (fun _=>Bq I I)<|Rv 58 b0 I c0 (fun _=>Bo I)<|AN (dk b0) ?_
 obtain ⟨u6,M6⟩:=AB d0 .done
 exact x0 false u6 (Tt z0 (Tt A0 M6)) h
 refine BF 65535 43 [(10,107),(11,108),(12,109),(13,110),(14,111),(15,112)] (F:=[(106,false)]) (U:=[]) b0 c0 (.cons I .nil) .nil ?_
 dsimp only [aO,List.map]
 refine Rv 16 b0 I c0 (fun _=>Bq I I)<|Rv 17 b0 I c0 (fun _=>Al I)<|BF 2097151 38 [(18,115),(19,116),(20,117)] (F:=[(114,false)]) (U:=[]) b0 c0 (.cons I .nil) .nil ?_
 dsimp only [aO,List.map]
 refine Rv 21 b0 I c0 (fun _=>Bq I I)<|Rv 22 b0 I c0 (fun _=>Al I)<|BF 67108863 33 [(23,120),(24,121),(25,122)] (F:=[(119,false)]) (U:=[]) b0 c0 (.cons I .nil) .nil ?_
 dsimp only [aO,List.map]
 refine Rv 26 b0 I c0 (fun _=>Bq I I)<|Rv 27 b0 I c0 (fun _=>Al I)<|BF 1073741823 29 [(28,125),(29,126)] (F:=[(124,false)]) (U:=[]) b0 c0 (.cons I .nil) .nil ?_
 dsimp only [aO,List.map]
 refine Rv 30 b0 I c0 (fun _=>Bq I I)<|Rv 31 b0 I c0 (fun _=>Al I)<|BF 549755813887 20 [(32,129),(33,130),(34,131),(35,132),(36,133),(37,134),(38,135)] (F:=[(128,false)]) (U:=[]) b0 c0 (.cons I .nil) .nil ?_
 dsimp only [aO,List.map]
 refine Rv 39 b0 I c0 (fun _=>Bq I I)<|Rv 40 b0 I c0 (fun _=>Al I)<|BF 281474976710655 11 [(41,138),(42,139),(43,140),(44,141),(45,142),(46,143),(47,144)] (F:=[(137,false)]) (U:=[]) b0 c0 (.cons I .nil) .nil ?_
 dsimp only [aO,List.map]
 refine Rv 48 b0 I c0 (fun _=>Bq I I)<|Rv 49 b0 I c0 (fun _=>Al I)<|BF 144115188075855871 2 [(50,147),(51,148),(52,149),(53,150),(54,151),(55,152),(56,153)] (F:=[(146,false)]) (U:=[]) b0 c0 (.cons I .nil) .nil ?_
 dsimp only [aO,List.map]
 refine Rv 57 b0 I c0 (fun _=>Bq I I)<|Rv 58 b0 I c0 (fun _=>Bo I)<|AN (dk b0) ?_
 obtain ⟨v6,P6⟩:=AB y0 .done
 exact x0 false v6 (Tt z0 P6) h
 refine BF 255 51 [(2,99),(3,100),(4,101),(5,102),(6,103),(7,104)] (F:=[(98,false)]) (U:=[]) b0 c0 (.cons I .nil) .nil ?_
 dsimp only [aO,List.map]
 refine Rv 8 b0 I c0 (fun _=>Bq I I)<|Rv 9 b0 I c0 (fun _=>Al I)<|BF 65535 43 [(10,107),(11,108),(12,109),(13,110),(14,111),(15,112)] (F:=[(106,false)]) (U:=[]) b0 c0 (.cons I .nil) .nil ?_
 dsimp only [aO,List.map]
 refine Rv 16 b0 I c0 (fun _=>Bq I I)<|Rv 17 b0 I c0 (fun _=>Al I)<|BF 2097151 38 [(18,115),(19,116),(20,117)] (F:=[(114,false)]) (U:=[]) b0 c0 (.cons I .nil) .nil ?_
 dsimp only [aO,List.map]
 refine Rv 21 b0 I c0 (fun _=>Bq I I)<|Rv 22 b0 I c0 (fun _=>Al I)<|BF 67108863 33 [(23,120),(24,121),(25,122)] (F:=[(119,false)]) (U:=[]) b0 c0 (.cons I .nil) .nil ?_
 dsimp only [aO,List.map]
 refine Rv 26 b0 I c0 (fun _=>Bq I I)<|Rv 27 b0 I c0 (fun _=>Al I)<|BF 1073741823 29 [(28,125),(29,126)] (F:=[(124,false)]) (U:=[]) b0 c0 (.cons I .nil) .nil ?_
 dsimp only [aO,List.map]
 refine Rv 30 b0 I c0 (fun _=>Bq I I)<|Rv 31 b0 I c0 (fun _=>Al I)<|BF 549755813887 20 [(32,129),(33,130),(34,131),(35,132),(36,133),(37,134),(38,135)] (F:=[(128,false)]) (U:=[]) b0 c0 (.cons I .nil) .nil ?_
 dsimp only [aO,List.map]
 refine Rv 39 b0 I c0 (fun _=>Bq I I)<|Rv 40 b0 I c0 (fun _=>Al I)<|BF 281474976710655 11 [(41,138),(42,139),(43,140),(44,141),(45,142),(46,143),(47,144)] (F:=[(137,false)]) (U:=[]) b0 c0 (.cons I .nil) .nil ?_
 dsimp only [aO,List.map]
 refine Rv 48 b0 I c0 (fun _=>Bq I I)<|Rv 49 b0 I c0 (fun _=>Al I)<|BF 144115188075855871 2 [(50,147),(51,148),(52,149),(53,150),(54,151),(55,152),(56,153)] (F:=[(146,false)]) (U:=[]) b0 c0 (.cons I .nil) .nil ?_
 dsimp only [aO,List.map]
 refine Rv 57 b0 I c0 (fun _=>Bq I I)<|Rv 58 b0 I c0 (fun _=>Bo I)<|AN (dk b0) ?_
 obtain ⟨x6,Q6⟩:=AB d1 .done
 exact x0 false x6 Q6 h
 intro D00 K0 h
 try dsimp only at h
 refine Am<|Ab (AS (vs:=[vI 2,vI 1]) (u:=.agg #[vI 2,vI 1]) (e2 I I) (fun w9=>by kernel_rfl))<|Ab (AS (vs:=[vI 6,vI 2]) (u:=.agg #[vI 6,vI 2]) (e2 I I) (fun w9=>by kernel_rfl))<|Ao .plain I (AV (α:=Int × Int) (xs:=([((2:Int),(1:Int)),((6:Int),(2:Int))]:Lb (Int × Int))) (vs:=[.agg #[vI 2,vI 1],.agg #[vI 6,vI 2]]) (ds' :=[vI 2,vI 1,vI 6,vI 2]) I U3 gu I (e2 I I) (by kernel_rfl) I) fun B02 z5 d2 H0=>?_
 have J2:=Bw d2 .hd
 have I0:=Bx d2 .hd
 refine bk h fun p00 Q8 h=>jE (bd 13) I (e2 I I) (fun w9 hw9=>ax_c n (J2.hL hL hw9) (Ah (By (α:=Int × Int) (v:=(vS z5 2)) (xs:=([((2:Int),(1:Int)),((6:Int),(2:Int))]:Lb (Int × Int))) J2 L (Bg (α:=Int × Int) d2 .hd (AJ (cs:=[vI 2,vI 1,vI 6,vI 2]) (xs:=(([((2:Int),(1:Int)),((6:Int),(2:Int))]:Lb (Int × Int)):Lb (Int × Int))) d2 L (AC (cs:=[vI 2,vI 1]) (ds:=[vI 6,vI 2]) (bG (2:Int) (1:Int)) (AC (cs:=[vI 6,vI 2]) (ds:=[]) (bG (6:Int) (2:Int)) (AR _ _)))) hL)) hw9) Q8) I fun R9 C9 j7 ⟨s01,hu_,B4⟩=>?_
 subst hu_
 obtain ⟨K2,J0⟩:=J2.agr j7
 refine jE (bd 28) I (e1 I) (fun w9 hw9=>Calls.gives (cI_c n (K2.hL hL hw9) p00 (Ah B4 hw9)) fun (w8:World) (u8:Vc) ⟨b0_,hu_,s_⟩=>(⟨b0_,hu_,s_.from hw9⟩:∃ K1:Nat,u8 = Value.func (.func 91) #[] #[vP K1]/\St R9 w8 [.cells K1 [C9] 24])) I fun C02 P01 Y00 ⟨K1,R7,Q4⟩=>?_
 subst R7
 have g2:=ca K2 Q4
 have B0:=dO K2 Q4
 refine bk h fun v0 R8 h=>Bj (.agg ((ab v0)).toArray) (bd 15) I (e2 I I) (fun w9 hw9=>ai_c n (g2.hL0 hL hw9)  R8) I<|bk h fun p0 U8 h=>Bj (.agg ((ab p0)).toArray) (bd 15) I (e2 I I) (fun w9 hw9=>ai_c n (g2.hL0 hL hw9)  U8) I<|bk h fun j0 V8 h=>Bj (.agg ((ab j0)).toArray) (bd 15) I (e2 I I) (fun w9 hw9=>ai_c n (g2.hL0 hL hw9)  V8) I<|Ao .plain I (AV (α:=Tb) (xs:=([v0,p0,j0]:Lb Tb)) (vs:=[.agg ((ab v0)).toArray,.agg ((ab p0)).toArray,.agg ((ab j0)).toArray]) (ds' :=(ab v0 ++ ab p0 ++ ab j0)) I g2 iZ I (e3 I I I) (by kernel_rfl) I) fun D02 A5 j2 C0=>?_
 have M2:=Bw j2 .hd
 have D0:=Bx j2 .hd
 refine bk h fun b03 W8 h=>jE (bd 26) I (e1 I) (fun w9 hw9=>cC_c n (M2.hL hL hw9) (Ah (By (α:=Tb) (v:=(vS A5 3)) (xs:=([v0,p0,j0]:Lb Tb)) M2 L (Bg (α:=Tb) j2 .hd (AJ (cs:=(ab v0 ++ ab p0 ++ ab j0)) (xs:=(([v0,p0,j0]:Lb Tb):Lb Tb)) j2 L (AC (cs:=(ab v0)) (ds:=(ab p0 ++ ab j0)) (dn v0.fN v0.fD) (AC (cs:=(ab p0)) (ds:=(ab j0)) (dn p0.fN p0.fD) (AC (cs:=(ab j0)) (ds:=[]) (dn j0.fN j0.fD) (AR _ _))))) hL)) hw9) W8) I fun U9 Q01 k7 ⟨t01,hu_,B7⟩=>?_
 subst hu_
 obtain ⟨G0,E0⟩:=M2.agr k7
 refine Ab (Ai I I)<|Ab (Ai I I)<|bk h fun q00 X8 h=>BG (v:=.bool q00) (fst:=[]) (cap:=[vP K1]) .plain (bd 91) I (e2 I I) (fun w9 hw9=>aZ_c n (G0.hL0 hL hw9) (G0.kd B7 hw9) (G0.kd (Af B4 (Tt B0 (Tt C0 (Tt D0 E0)))) hw9) (aI hw9 (G0.memA .hd)) X8) I<|Ac I<|RG.ifb (s:=27) I h (fun U5 h=>?_) (fun U5 h=>?_)
 refine Ay (fst:=[]) (cap:=[]) (.yes I I) (bd 22) I (e1 I) (fun w9 hw9=>Calls.gives (df_c n (G0.hL hL hw9) (4:Int)) fun (w8:World) (u8:Vc) ⟨b0_,hu_,s_⟩=>(⟨b0_,hu_,s_.from hw9⟩:∃ M1:Nat,u8 = Value.func (.func 82) #[] #[vP M1]/\St U9 w8 [.cells M1 [vI 4] 27])) I fun E02 R01 Z00 ⟨M1,U7,R4⟩=>?_
 subst U7
 have P2:=ca G0 R4
 have Q0:=dO G0 R4
 refine bk h fun c03 Y8 h=>Ay (fst:=[]) (cap:=[]) (.yes I I) (bd 26) I (e1 I) (fun w9 hw9=>cC_c n (P2.hL hL hw9) (Ah (Bm (α:=Tb) P2 L) hw9) Y8) I fun F02 U01 p7 ⟨u01,hu_,C7⟩=>?_
 subst hu_
 obtain ⟨P0,R0⟩:=P2.agr p7
 refine AM (Ai I I)<|AM (Ai I I)<|bk h fun s00 Z8 h=>BG (v:=.bool s00) (fst:=[]) (cap:=[vP M1]) (.yes I I) (bd 82) I (e2 I I) (fun w9 hw9=>cA_c n (P0.hL0 hL hw9) (P0.kd C7 hw9) (aI hw9 (P0.memA .hd)) Z8) I<|Br I I<|Ac I<|RG.ifb (s:=34) I h (fun V5 h=>?_) (fun V5 h=>?_)
 refine bk h fun g5 b9 h=>BG (v:=vI g5) (fst:=[]) (cap:=[]) (.yes I I) (bd 16) I (e1 I) (fun w9 hw9=>aQ_c n (P0.hL0 hL hw9) (Ah (Rep.nilSlice _ _) hw9) b9) I<|AM (FV.eql (i:=g5) (j:=50) I I)<|Br I I<|Ac I<|RG.ifd (s:=38) I h (fun W5 h=>?_) (fun W5 h=>?_)
 refine AM (AS (vs:=[vI 0,vI 1]) (u:=.agg #[vI 0,vI 1]) (e2 I I) (fun w9=>by kernel_rfl))<|AM (AS (vs:=[vI 2,vI 2]) (u:=.agg #[vI 2,vI 2]) (e2 I I) (fun w9=>by kernel_rfl))<|AM (AS (vs:=[vI 4,vI 1]) (u:=.agg #[vI 4,vI 1]) (e2 I I) (fun w9=>by kernel_rfl))<|Ao (.yes I I) I (AV (α:=Int × Int) (xs:=([((0:Int),(1:Int)),((2:Int),(2:Int)),((4:Int),(1:Int))]:Lb (Int × Int))) (vs:=[.agg #[vI 0,vI 1],.agg #[vI 2,vI 2],.agg #[vI 4,vI 1]]) (ds' :=[vI 0,vI 1,vI 2,vI 2,vI 4,vI 1]) I P0 gu I (e3 I I I) (by kernel_rfl) I) fun G02 B5 k2 k1=>?_
 have Q2:=Bw k2 .hd
 have p1:=Bx k2 .hd
 refine bk h fun t00 c9 h=>Ay (fst:=[]) (cap:=[]) (.yes I I) (bd 13) I (e2 I I) (fun w9 hw9=>ax_c n (Q2.hL hL hw9) (Ah (By (α:=Int × Int) (v:=(vS B5 3)) (xs:=([((0:Int),(1:Int)),((2:Int),(2:Int)),((4:Int),(1:Int))]:Lb (Int × Int))) Q2 L (Bg (α:=Int × Int) k2 .hd (AJ (cs:=[vI 0,vI 1,vI 2,vI 2,vI 4,vI 1]) (xs:=(([((0:Int),(1:Int)),((2:Int),(2:Int)),((4:Int),(1:Int))]:Lb (Int × Int)):Lb (Int × Int))) k2 L (AC (cs:=[vI 0,vI 1]) (ds:=[vI 2,vI 2,vI 4,vI 1]) (bG (0:Int) (1:Int)) (AC (cs:=[vI 2,vI 2]) (ds:=[vI 4,vI 1]) (bG (2:Int) (2:Int)) (AC (cs:=[vI 4,vI 1]) (ds:=[]) (bG (4:Int) (1:Int)) (AR _ _))))) hL)) hw9) c9) I fun V9 D9 q7 ⟨v01,hu_,C4⟩=>?_
 subst hu_
 obtain ⟨R2,q1⟩:=Q2.agr q7
 refine Ay (fst:=[]) (cap:=[]) (.yes I I) (bd 28) I (e1 I) (fun w9 hw9=>Calls.gives (cI_c n (R2.hL hL hw9) t00 (Ah C4 hw9)) fun (w8:World) (u8:Vc) ⟨b0_,hu_,s_⟩=>(⟨b0_,hu_,s_.from hw9⟩:∃ P1:Nat,u8 = Value.func (.func 91) #[] #[vP P1]/\St V9 w8 [.cells P1 [D9] 24])) I fun H02 V01 b01 ⟨P1,V7,U4⟩=>?_
 subst V7
 have V3:=ca R2 U4
 have Z0:=dO R2 U4
 refine AM (Al I)<|AM (Al I)<|bk h fun d03 d9 h=>?_
 have x4:=Tt X3 (Tt Y3 (Tt g4 (Tt H0 (Tt I0 (Tt J0 (Tt B0 (Tt C0 (Tt D0 (Tt E0 (Tt Q0 (Tt R0 (Tt k1 (Tt p1 (Tt q1 Z0))))))))))))))
 have v4:=Af g0 x4
 refine Ay (fst:=[]) (cap:=[]) (.yes I I) (bd 24) I (e2 I I) (fun w9 hw9=>bp_c n (V3.hL hL hw9) (Ah v4 hw9) (Ah v4 hw9) d9) I fun I02 W01 s7 ⟨x01,hu_,D7⟩=>?_
 subst hu_
 obtain ⟨W0,b1⟩:=V3.agr s7
 refine AM (Ai I I)<|AM (Ai I I)<|bk h fun u00 g9 h=>BG (v:=.bool u00) (fst:=[]) (cap:=[vP P1]) (.yes I I) (bd 91) I (e2 I I) (fun w9 hw9=>aZ_c n (W0.hL0 hL hw9) (W0.kd D7 hw9) (W0.kd (Af C4 (Tt Z0 b1)) hw9) (aI hw9 (W0.memA .hd)) g9) I<|Br I I<|Ac I<|RG.ifb (s:=52) I h (fun X5 h=>?_) (fun X5 h=>?_)
 refine AM (AS (vs:=[vI (-4),vI 1]) (u:=.agg #[vI (-4),vI 1]) (e2 I I) (fun w9=>by kernel_rfl))<|AM (AS (vs:=[vI 0,vI 1]) (u:=.agg #[vI 0,vI 1]) (e2 I I) (fun w9=>by kernel_rfl))<|Ao (.yes I I) I (AV (α:=Int × Int) (xs:=([((-4:Int),(1:Int)),((0:Int),(1:Int))]:Lb (Int × Int))) (vs:=[.agg #[vI (-4),vI 1],.agg #[vI 0,vI 1]]) (ds' :=[vI (-4),vI 1,vI 0,vI 1]) I W0 gu I (e2 I I) (by kernel_rfl) I) fun J02 C5 p2 z2=>?_
 have U2:=Bw p2 .hd
 have A2:=Bx p2 .hd
 refine bk h fun v00 j9 h=>Ay (fst:=[]) (cap:=[]) (.yes I I) (bd 13) I (e2 I I) (fun w9 hw9=>ax_c n (U2.hL hL hw9) (Ah (By (α:=Int × Int) (v:=(vS C5 2)) (xs:=([((-4:Int),(1:Int)),((0:Int),(1:Int))]:Lb (Int × Int))) U2 L (Bg (α:=Int × Int) p2 .hd (AJ (cs:=[vI (-4),vI 1,vI 0,vI 1]) (xs:=(([((-4:Int),(1:Int)),((0:Int),(1:Int))]:Lb (Int × Int)):Lb (Int × Int))) p2 L (AC (cs:=[vI (-4),vI 1]) (ds:=[vI 0,vI 1]) (bG (-4:Int) (1:Int)) (AC (cs:=[vI 0,vI 1]) (ds:=[]) (bG (0:Int) (1:Int)) (AR _ _)))) hL)) hw9) j9) I fun W9 E9 t7 ⟨y01,hu_,D4⟩=>?_
 subst hu_
 obtain ⟨V2,B2⟩:=U2.agr t7
 refine Ay (fst:=[]) (cap:=[]) (.yes I I) (bd 28) I (e1 I) (fun w9 hw9=>Calls.gives (cI_c n (V2.hL hL hw9) v00 (Ah D4 hw9)) fun (w8:World) (u8:Vc) ⟨b0_,hu_,s_⟩=>(⟨b0_,hu_,s_.from hw9⟩:∃ Q1:Nat,u8 = Value.func (.func 91) #[] #[vP Q1]/\St W9 w8 [.cells Q1 [E9] 24])) I fun K02 X01 c01 ⟨Q1,W7,V4⟩=>?_
 subst W7
 have W2:=ca V2 V4
 have s1:=dO V2 V4
 refine AM (Al I)<|bk h fun j5 k9 h=>BG (v:=.agg ((ab j5)).toArray) (fst:=[]) (cap:=[]) (.yes I I) (bd 15) I (e2 I I) (fun w9 hw9=>ai_c n (W2.hL0 hL hw9)  k9) I<|bk h fun g03 p9 h=>?_
 have y4:=Tt x4 (Tt b1 (Tt z2 (Tt A2 (Tt B2 s1))))
 refine Ay (fst:=[]) (cap:=[]) (.yes I I) (bd 29) I (e2 I I) (fun w9 hw9=>aJ_c n (W2.hL hL hw9) (Ah (Af g0 y4) hw9) j5 p9) I fun M02 Y01 u7 ⟨z01,hu_,E7⟩=>?_
 subst hu_
 obtain ⟨X0,u1⟩:=W2.agr u7
 refine AM (Ai I I)<|AM (Ai I I)<|bk h fun x00 q9 h=>BG (v:=.bool x00) (fst:=[]) (cap:=[vP Q1]) (.yes I I) (bd 91) I (e2 I I) (fun w9 hw9=>aZ_c n (X0.hL0 hL hw9) (X0.kd E7 hw9) (X0.kd (Af D4 (Tt s1 u1)) hw9) (aI hw9 (X0.memA .hd)) q9) I<|Br I I<|Ac I<|RG.ifb (s:=65) I h (fun Y5 h=>?_) (fun Y5 h=>?_)
 refine AM (AS (vs:=[vI 0,vI 1]) (u:=.agg #[vI 0,vI 1]) (e2 I I) (fun w9=>by kernel_rfl))<|Ao (.yes I I) I (AV (α:=Int × Int) (xs:=([((0:Int),(1:Int))]:Lb (Int × Int))) (vs:=[.agg #[vI 0,vI 1]]) (ds' :=[vI 0,vI 1]) I X0 gu I (e1 I) (by kernel_rfl) I) fun P02 D5 q2 t3=>?_
 have X2:=Bw q2 .hd
 have u3:=Bx q2 .hd
 refine bk h fun y00 s9 h=>Ay (fst:=[]) (cap:=[]) (.yes I I) (bd 13) I (e2 I I) (fun w9 hw9=>ax_c n (X2.hL hL hw9) (Ah (By (α:=Int × Int) (v:=(vS D5 1)) (xs:=([((0:Int),(1:Int))]:Lb (Int × Int))) X2 L (Bg (α:=Int × Int) q2 .hd (AJ (cs:=[vI 0,vI 1]) (xs:=(([((0:Int),(1:Int))]:Lb (Int × Int)):Lb (Int × Int))) q2 L (AC (cs:=[vI 0,vI 1]) (ds:=[]) (bG (0:Int) (1:Int)) (AR _ _))) hL)) hw9) s9) I fun X9 F9 v7 ⟨A01,hu_,E4⟩=>?_
 subst hu_
 obtain ⟨Y2,v3⟩:=X2.agr v7
 refine Ay (fst:=[]) (cap:=[]) (.yes I I) (bd 28) I (e1 I) (fun w9 hw9=>Calls.gives (cI_c n (Y2.hL hL hw9) y00 (Ah E4 hw9)) fun (w8:World) (u8:Vc) ⟨b0_,hu_,s_⟩=>(⟨b0_,hu_,s_.from hw9⟩:∃ R1:Nat,u8 = Value.func (.func 91) #[] #[vP R1]/\St X9 w8 [.cells R1 [F9] 24])) I fun Q02 Z01 d01 ⟨R1,X7,W4⟩=>?_
 subst X7
 have Z2:=ca Y2 W4
 have C2:=dO Y2 W4
 refine AM (Al I)<|bk h fun k5 t9 h=>BG (v:=.agg ((ab k5)).toArray) (fst:=[]) (cap:=[]) (.yes I I) (bd 15) I (e2 I I) (fun w9 hw9=>ai_c n (Z2.hL0 hL hw9)  t9) I<|bk h fun j03 u9 h=>?_
 have z4:=Tt y4 (Tt u1 (Tt t3 (Tt u3 (Tt v3 C2))))
 refine Ay (fst:=[]) (cap:=[]) (.yes I I) (bd 29) I (e2 I I) (fun w9 hw9=>aJ_c n (Z2.hL hL hw9) (Ah (Af g0 z4) hw9) k5 u9) I fun R02 b02 x7 ⟨B01,hu_,F7⟩=>?_
 subst hu_
 obtain ⟨Y0,D2⟩:=Z2.agr x7
 refine AM (Ai I I)<|AM (Ai I I)<|bk h fun z00 v9 h=>BG (v:=.bool z00) (fst:=[]) (cap:=[vP R1]) (.yes I I) (bd 91) I (e2 I I) (fun w9 hw9=>aZ_c n (Y0.hL0 hL hw9) (Y0.kd F7 hw9) (Y0.kd (Af E4 (Tt C2 D2)) hw9) (aI hw9 (Y0.memA .hd)) v9) I<|Br I I<|Ac I<|RG.ifb (s:=77) I h (fun Z5 h=>?_) (fun Z5 h=>?_)
 refine AM (AS (vs:=[vI 1,vI 1]) (u:=.agg #[vI 1,vI 1]) (e2 I I) (fun w9=>by kernel_rfl))<|AM (AS (vs:=[vI 3,vI 1]) (u:=.agg #[vI 3,vI 1]) (e2 I I) (fun w9=>by kernel_rfl))<|Ao (.yes I I) I (AV (α:=Int × Int) (xs:=([((1:Int),(1:Int)),((3:Int),(1:Int))]:Lb (Int × Int))) (vs:=[.agg #[vI 1,vI 1],.agg #[vI 3,vI 1]]) (ds' :=[vI 1,vI 1,vI 3,vI 1]) I Y0 gu I (e2 I I) (by kernel_rfl) I) fun U02 E5 s2 p4=>?_
 have b3:=Bw s2 .hd
 have q4:=Bx s2 .hd
 refine bk h fun A00 x9 h=>Ay (fst:=[]) (cap:=[]) (.yes I I) (bd 13) I (e2 I I) (fun w9 hw9=>ax_c n (b3.hL hL hw9) (Ah (By (α:=Int × Int) (v:=(vS E5 2)) (xs:=([((1:Int),(1:Int)),((3:Int),(1:Int))]:Lb (Int × Int))) b3 L (Bg (α:=Int × Int) s2 .hd (AJ (cs:=[vI 1,vI 1,vI 3,vI 1]) (xs:=(([((1:Int),(1:Int)),((3:Int),(1:Int))]:Lb (Int × Int)):Lb (Int × Int))) s2 L (AC (cs:=[vI 1,vI 1]) (ds:=[vI 3,vI 1]) (bG (1:Int) (1:Int)) (AC (cs:=[vI 3,vI 1]) (ds:=[]) (bG (3:Int) (1:Int)) (AR _ _)))) hL)) hw9) x9) I fun Y9 G9 y7 ⟨C01,hu_,F4⟩=>?_
 subst hu_
 obtain ⟨c3,s4⟩:=b3.agr y7
 refine Ay (fst:=[]) (cap:=[]) (.yes I I) (bd 28) I (e1 I) (fun w9 hw9=>Calls.gives (cI_c n (c3.hL hL hw9) A00 (Ah F4 hw9)) fun (w8:World) (u8:Vc) ⟨b0_,hu_,s_⟩=>(⟨b0_,hu_,s_.from hw9⟩:∃ U1:Nat,u8 = Value.func (.func 91) #[] #[vP U1]/\St Y9 w8 [.cells U1 [G9] 24])) I fun V02 c02 g01 ⟨U1,Y7,X4⟩=>?_
 subst Y7
 have d3:=ca c3 X4
 have x3:=dO c3 X4
 refine AM (Al I)<|bk h fun p5 y9 h=>BG (v:=.agg ((ab p5)).toArray) (fst:=[]) (cap:=[]) (.yes I I) (bd 15) I (e2 I I) (fun w9 hw9=>ai_c n (d3.hL0 hL hw9)  y9) I<|bk h fun k03 z9 h=>Ay (fst:=[]) (cap:=[]) (.yes I I) (bd 23) I (e2 I I) (fun w9 hw9=>aO_c n (d3.hL hL hw9) (Ah (Af g0 (Tt z4 (Tt D2 (Tt p4 (Tt q4 (Tt s4 x3)))))) hw9) p5 z9) I fun W02 d02 z7 ⟨D01,hu_,G7⟩=>?_
 subst hu_
 obtain ⟨g1,u4⟩:=d3.agr z7
 refine AM (Ai I I)<|AM (Ai I I)<|bk h fun q5 A9 h=>BG (v:=.bool q5) (fst:=[]) (cap:=[vP U1]) (.yes I I) (bd 91) I (e2 I I) (fun w9 hw9=>aZ_c n (g1.hL0 hL hw9) (g1.kd G7 hw9) (g1.kd (Af F4 (Tt x3 u4)) hw9) (aI hw9 (g1.memA .hd)) A9) I<|Br I I<|Ag I<|Aa ?_
 obtain ⟨y6,R6⟩:=AB g1 .done
 exact K0 q5 y6 (Tt H0 (Tt I0 (Tt J0 (Tt B0 (Tt C0 (Tt D0 (Tt E0 (Tt Q0 (Tt R0 (Tt k1 (Tt p1 (Tt q1 (Tt Z0 (Tt b1 (Tt z2 (Tt A2 (Tt B2 (Tt s1 (Tt u1 (Tt t3 (Tt u3 (Tt v3 (Tt C2 (Tt D2 (Tt p4 (Tt q4 (Tt s4 (Tt x3 (Tt u4 R6))))))))))))))))))))))))))))) h
 refine Ap<|Ap<|Ap<|Ap<|Ap<|Ap<|Ap<|Ap<|Ap<|Ap<|Ap<|Bs I I<|Ag I<|Aa ?_
 obtain ⟨z6,U6⟩:=AB Y0 .done
 exact K0 false z6 (Tt H0 (Tt I0 (Tt J0 (Tt B0 (Tt C0 (Tt D0 (Tt E0 (Tt Q0 (Tt R0 (Tt k1 (Tt p1 (Tt q1 (Tt Z0 (Tt b1 (Tt z2 (Tt A2 (Tt B2 (Tt s1 (Tt u1 (Tt t3 (Tt u3 (Tt v3 (Tt C2 (Tt D2 U6)))))))))))))))))))))))) h
 refine Ap<|Ap<|Ap<|Ap<|Ap<|Ap<|Ap<|Ap<|Ap<|Ap<|Bs I I<|Ac I<|Ap<|Ap<|Ap<|Ap<|Ap<|Ap<|Ap<|Ap<|Ap<|Ap<|Ap<|Bs I I<|Ag I<|Aa ?_
 obtain ⟨A6,V6⟩:=AB X0 .done
 exact K0 false A6 (Tt H0 (Tt I0 (Tt J0 (Tt B0 (Tt C0 (Tt D0 (Tt E0 (Tt Q0 (Tt R0 (Tt k1 (Tt p1 (Tt q1 (Tt Z0 (Tt b1 (Tt z2 (Tt A2 (Tt B2 (Tt s1 (Tt u1 V6))))))))))))))))))) h
 refine Ap<|Ap<|Ap<|Ap<|Ap<|Ap<|Ap<|Ap<|Ap<|Ap<|Ap<|Bs I I<|Ac I<|Ap<|Ap<|Ap<|Ap<|Ap<|Ap<|Ap<|Ap<|Ap<|Ap<|Bs I I<|Ac I<|Ap<|Ap<|Ap<|Ap<|Ap<|Ap<|Ap<|Ap<|Ap<|Ap<|Ap<|Bs I I<|Ag I<|Aa ?_
 obtain ⟨B6,W6⟩:=AB W0 .done
 exact K0 false B6 (Tt H0 (Tt I0 (Tt J0 (Tt B0 (Tt C0 (Tt D0 (Tt E0 (Tt Q0 (Tt R0 (Tt k1 (Tt p1 (Tt q1 (Tt Z0 (Tt b1 W6)))))))))))))) h
 refine Ap<|Ap<|Ap<|Ap<|Ap<|Ap<|Ap<|Ap<|Ap<|Ap<|Ap<|Ap<|Bs I I<|Ac I<|Ap<|Ap<|Ap<|Ap<|Ap<|Ap<|Ap<|Ap<|Ap<|Ap<|Ap<|Bs I I<|Ac I<|Ap<|Ap<|Ap<|Ap<|Ap<|Ap<|Ap<|Ap<|Ap<|Ap<|Bs I I<|Ac I<|Ap<|Ap<|Ap<|Ap<|Ap<|Ap<|Ap<|Ap<|Ap<|Ap<|Ap<|Bs I I<|Ag I<|Aa ?_
 obtain ⟨C6,X6⟩:=AB P0 .done
 exact K0 false C6 (Tt H0 (Tt I0 (Tt J0 (Tt B0 (Tt C0 (Tt D0 (Tt E0 (Tt Q0 (Tt R0 X6))))))))) h
 refine Ap<|Ap<|Bs I I<|Ac I<|Ap<|Ap<|Ap<|Ap<|Ap<|Ap<|Ap<|Ap<|Ap<|Ap<|Ap<|Ap<|Bs I I<|Ac I<|Ap<|Ap<|Ap<|Ap<|Ap<|Ap<|Ap<|Ap<|Ap<|Ap<|Ap<|Bs I I<|Ac I<|Ap<|Ap<|Ap<|Ap<|Ap<|Ap<|Ap<|Ap<|Ap<|Ap<|Bs I I<|Ac I<|Ap<|Ap<|Ap<|Ap<|Ap<|Ap<|Ap<|Ap<|Ap<|Ap<|Ap<|Bs I I<|Ag I<|Aa ?_
 obtain ⟨D6,Y6⟩:=AB P0 .done
 exact K0 false D6 (Tt H0 (Tt I0 (Tt J0 (Tt B0 (Tt C0 (Tt D0 (Tt E0 (Tt Q0 (Tt R0 Y6))))))))) h
 refine Ap<|Ap<|Ap<|Ap<|Ap<|Bs I I<|Ac I<|Ap<|Ap<|Bs I I<|Ac I<|Ap<|Ap<|Ap<|Ap<|Ap<|Ap<|Ap<|Ap<|Ap<|Ap<|Ap<|Ap<|Bs I I<|Ac I<|Ap<|Ap<|Ap<|Ap<|Ap<|Ap<|Ap<|Ap<|Ap<|Ap<|Ap<|Bs I I<|Ac I<|Ap<|Ap<|Ap<|Ap<|Ap<|Ap<|Ap<|Ap<|Ap<|Ap<|Bs I I<|Ac I<|Ap<|Ap<|Ap<|Ap<|Ap<|Ap<|Ap<|Ap<|Ap<|Ap ?_
 refine Ap<|Bs I I<|Ag I<|Aa ?_
 obtain ⟨E6,Z6⟩:=AB G0 .done
 exact K0 false E6 (Tt H0 (Tt I0 (Tt J0 (Tt B0 (Tt C0 (Tt D0 (Tt E0 Z6))))))) h
def aR_l1 (_n:Nat) (a0:Lb Int) (a1:Lb Int) (g0:Int -> Oa (Int ⊕ Unit)):Int -> Oa (Int ⊕ Unit)
  | b0=>(if 0 <= b0 then (idx a0 b0).bind fun c0=>(idx a1 b0).bind fun d0=>(if c0 = d0 then (chk (b0 - 1)).bind fun j0=>g0 j0 else (chk (c0 - d0)).bind fun k0=>some (.inl k0)) else some (.inr ()))
def aR_p (n:Nat) (a0:Lb Int) (a1:Lb Int):Oa Int:=
  (if a0.length = a1.length then thn (ao (aR_l1 n a0 a1) n (((a0.length:Nat):Int) - 1)) (fun _=>some (0:Int)) else some (((a0.length:Nat):Int) - ((a1.length:Nat):Int)))
theorem aR_c (n:Nat) {L w} (_hL:hl L w) {a0:Lb Int} {v0_0:Vc} (h0_0:Rep.R w L [v0_0] a0) {a1:Lb Int} {v1_0:Vc} (h1_0:Rep.R w L [v1_0] a1)  {r:Int} (h:aR_p n a0 a1 = some r) :
 Cl 175 #[v0_0,v1_0] w (aj w fun _ u=>u = vI r):=by
 unfold aR_p at h
 have hS0:=AK w
 refine AL func175 I I I fun _ cs0 hb0=>Ae<|Ag I<|Aa<|Aj<|Ae<|Ac I ?_
 have hl1:=AX h0_0
 refine Ab (AY (xs:=a0) underlying140 I h0_0)<|Ac I ?_
 have hl2:=AX h1_0
 refine Ab (AY (xs:=a1) underlying140 I h1_0)<|Ab (FV.neqN (i:=a0.length) (j:=a1.length) I I)<|Aa<|BI I h (fun c3 h=>?_) (fun c3 h=>?_)
 refine Aq<|Aj<|Ae<|Ac I<|Ab (AY (xs:=a0) underlying140 I h0_0)<|Ab (FV.subI (i:=((a0.length:Nat):Int)) (j:=1) I I (by omega))<|Ag I<|Aa<|Av<|tn h fun j1 K0 u0=>MX.lo (α:=Int) (fun c0=>[(0,v0_0),(1,v1_0),(5,vI c0)]) (fun c0=>[]) (fun c0=>c0) (((a0.length:Nat):Int) - 1) K0 hS0 ?_
 rintro c1 c0 p1 G0 k0 H0 h
 unfold aR_l1 at h
 try dsimp only at h
 refine Aj<|Ae<|Ac I<|Ab (FV.geq (i:=c0) (j:=0) I I)<|Aa<|AW I h (fun C0 h=>?_) (fun C0 h=>?_)
 refine Aq<|Aj<|Av<|Aj<|du 9 fun g0 j0=>Rv 0 g0 I j0 (fun _=>Al I)<|Rv 1 g0 I j0 (fun _=>Al I)<|bk h fun p0 U0 h=>?_
 obtain ⟨v0,V0⟩:=aU U0
 obtain ⟨Z0,d1,s0,y0,E0,M0,A0⟩:=Be (AG h0_0 k0) V0
 have I0:E0 = [vI p0]:=M0; subst I0
 refine Rv 2 g0 I j0 (fun _=>Bf 1 (c0.toNat) I s0 I v0 y0)<|Rx 3 256 g0 I j0 (Bn I (A0 0 _ I))<|Rv 4 g0 I j0 (fun _=>Al I)<|Rv 5 g0 I j0 (fun _=>Al I)<|bk h fun q0 W0 h=>?_
 obtain ⟨x0,X0⟩:=aU W0
 obtain ⟨b1,g1,t0,z0,F0,P0,B0⟩:=Be (AG h1_0 k0) X0
 have J0:F0 = [vI q0]:=P0; subst J0
 refine Rv 6 g0 I j0 (fun _=>Bf 1 (c0.toNat) I t0 I x0 z0)<|Rx 7 256 g0 I j0 (Bn I (B0 0 _ I))<|Rv 8 g0 I j0 (fun _=>BB (i:=p0) (j:=q0) I I)<|AN (dk g0)<|BI I h (fun D0 h=>?_) (fun D0 h=>?_)
 refine Aq<|Aw<|Am<|Ac I<|bk h fun Y0 Q0 h=>Ab (FV.subc (i:=c0) (j:=1) I I Q0)<|Ag I<|Aa<|G0 Y0 k0 H0 h
 refine Aj<|du 10 fun b0 d0=>Rv 0 b0 I d0 (fun _=>Al I)<|Rv 1 b0 I d0 (fun _=>Al I)<|Rv 2 b0 I d0 (fun _=>Bf 1 (c0.toNat) I s0 I v0 y0)<|Rx 3 768 b0 I d0 (Bn I (A0 0 _ I))<|Rv 4 b0 I d0 (fun _=>Al I)<|Rv 5 b0 I d0 (fun _=>Al I)<|Rv 6 b0 I d0 (fun _=>Bf 1 (c0.toNat) I t0 I x0 z0)<|Rx 7 768 b0 I d0 (Bn I (B0 0 _ I))<|bk h fun k1 R0 h=>Rv 8 b0 I d0 (fun _=>FV.subc (i:=p0) (j:=q0) I I R0)<|Rv 9 b0 I d0 (fun _=>Bo I)<|AN (dk b0) ?_
 have h:=aX h u0
 refine Ar I<|Bb hb0 func175 I I ?_
 cases h
 exact k0.gv
 refine Ba I ?_
 have h:=bq h u0
 try dsimp only at h
 refine Ae<|Ag I<|Aa<|Ar I<|Bb hb0 func175 I I ?_
 cases h
 exact k0.gv
 refine Ae<|Ac I<|Ab (AY (xs:=a0) underlying140 I h0_0)<|Ac I<|Ab (AY (xs:=a1) underlying140 I h1_0)<|Ab (FV.subI (i:=((a0.length:Nat):Int)) (j:=((a1.length:Nat):Int)) I I (by omega))<|Ag I<|Aa<|Ar I<|Bb hb0 func175 I I ?_
 cases h
 exact hS0.gv
def aB_l1 (_n:Nat) (a0:Lb Int) (c0:Int -> Oa Int):Int -> Oa Int
  | b0=>(if 0 < b0 then (chk (b0 - 1)).bind fun d0=>(idx a0 d0).bind fun j0=>(if j0 = 0 then (chk (b0 - 1)).bind fun g0=>c0 g0 else some b0) else some b0)
def aB_p (n:Nat) (a0:Lb Int):Oa (Lb Int):=
  jn (fun d0=>(cut a0 0 d0).bind fun c0=>some c0) (fun b0=>Option.bind (ao (aB_l1 n a0) n ((a0.length:Nat):Int)) (b0))
theorem aB_c (n:Nat) {L w} (_hL:hl L w) {a0:Lb Int} {v0_0:Vc} (h0_0:Rep.R w L [v0_0] a0)  {r:Lb Int} (h:aB_p n a0 = some r) :
 Cl 181 #[v0_0] w (aj w fun w' u=>∃ v0_0:Vc,u = v0_0/\Rep.R w' L [v0_0] r):=by
 unfold aB_p at h
 have hS0:=AK w
 refine AL func181 I I I fun _ cs0 hb0=>Ae<|Ag I<|Aa<|Ae<|Ac I ?_
 have hl1:=AX h0_0
 refine Ab (AY (xs:=a0) underlying140 I h0_0)<|Ag I<|Aa<|Aj<|Av<|MX.xo (α:=Int) 0 (fun c0=>[(0,v0_0),(3,vI c0)]) (fun c0=>[]) (fun c0=>c0) hS0 I h ?_ ?_
 rintro c0 Y0 g0 W0 h
 try dsimp only at h
 refine Ae<|Ac I<|Ac I<|bk h fun b1 J0 h=>RG.valE .plain I (FV.cutL (α:=Int) J0 I I (AG h0_0 g0) I ⟨_,I⟩) fun P0 D0=>Ag I<|Aa<|Ar I<|Bb hb0 func181 I I ?_
 cases h
 exact ⟨g0.ag,fun w9 hw9=>⟨P0,I,g0.kd D0 hw9⟩⟩
 intro R0 k0 h
 try dsimp only at h
 obtain ⟨X0,C0,p0⟩:=am h
 refine MX.lo (α:=Int) (fun b0=>[(0,v0_0),(3,vI b0)]) (fun b0=>[]) (fun b0=>b0) ((a0.length:Nat):Int) C0 hS0 ?_
 rintro U0 b0 Z0 v0 d0 j0 h
 unfold aB_l1 at h
 try dsimp only at h
 refine Aj<|Ae<|Ac I<|Ab (FV.gtr (i:=b0) (j:=0) I I)<|Ac I<|RG.ifd (s:=8) I h (fun s0 h=>?_) (fun s0 h=>?_)
 refine AM (Al I)<|AM (Al I)<|bk h fun K0 F0 h=>AM (FV.subc (i:=b0) (j:=1) I I F0)<|bk h fun q0 H0 h=>?_
 obtain ⟨z0,I0⟩:=aU H0
 obtain ⟨Q0,V0,x0,A0,u0,E0,B0⟩:=Be (AG h0_0 d0) I0
 have y0:u0 = [vI q0]:=E0; subst y0
 refine AM (Bf 1 (K0.toNat) I x0 I z0 A0)<|AM (Bn I (B0 0 _ I))<|AM (FV.eql (i:=q0) (j:=0) I I)<|Br I I<|Aa<|AW I h (fun t0 h=>?_) (fun t0 h=>?_)
 refine Aq<|Av<|Am<|Ac I<|bk h fun M0 G0 h=>Ab (FV.subc (i:=b0) (j:=1) I I G0)<|Ag I<|Aa<|Aw<|v0 M0 d0 j0 h
 refine Ba I ?_
 have h:=p0 _ h
 try dsimp only at h
 exact k0 b0 d0 j0 h
 refine Ap<|Ap<|Ap<|Ap<|Ap<|Ap<|Bs I I<|Aa<|Bv I<|Ba I ?_
 have h:=p0 _ h
 try dsimp only at h
 exact k0 b0 d0 j0 h
theorem bg:ElT Tryz.prog 140 3 (Rep.size Int) 8 (vI 0) [vI 0]:=⟨underlying140,by kernel_rfl,rfl,rfl,rfl,rfl⟩
def aq_l1 (_n:Nat) (a0:Lb Int) (a1:Lb Int) (p0:Nat × Nat × (Lb Int) -> Oa (Lb Int)):Nat × Nat × (Lb Int) -> Oa (Lb Int)
  | (q0,b0,k0)=>(if b0 < a0.length then (a0[b0]?).bind fun v0=>(chk (v0 - ((q0:Nat):Int))).bind fun j0=>jn (fun c0=>jn (fun (s0,z0)=>(app k0 ([z0]:Lb Int)).bind fun y0=>p0 (s0,b0 + 1,y0)) (fun g0=>(if c0 < 0 then (chk (c0 + 4294967296)).bind fun t0=>g0 (1,t0) else g0 (0,c0)))) (fun d0=>(if b0 < a1.length then (a1[b0]?).bind fun x0=>(chk (j0 - x0)).bind fun u0=>d0 u0 else d0 j0)) else some k0)
def aq_p (n:Nat) (a0:Lb Int) (a1:Lb Int):Oa (Lb Int):=
  Option.bind (ao (aq_l1 n a0 a1) n (0,0,([]:Lb Int))) (fun b0=>(aB_p n b0).bind fun c0=>some c0)
theorem aq_c (n:Nat) {L w} (hL:hl L w) {a0:Lb Int} {v0_0:Vc} (h0_0:Rep.R w L [v0_0] a0) {a1:Lb Int} {v1_0:Vc} (h1_0:Rep.R w L [v1_0] a1)  {r:Lb Int} (h:aq_p n a0 a1 = some r) :
 Cl 176 #[v0_0,v1_0] w (aj w fun w' u=>∃ v0_0:Vc,u = v0_0/\Rep.R w' L [v0_0] r):=by
 unfold aq_p at h
 have hS0:=AK w
 refine AL func176 I I I fun _ cs0 hb0=>Ae<|Ag I<|Aa<|Ae<|Ag I<|Aa<|Ae<|Ag I<|Aa<|Aj<|Ae<|Ag I<|Aa<|Av ?_
 have B0:=hS0.nilRow 3 (Rep.size Int)
 have k2:=BT hS0 3 (Rep.size Int)
 obtain ⟨u2,C1,x1⟩:=am h
 refine BR (α:=Nat × Nat × (Lb Int) × Vc × (Lb Vc)) (fun ⟨p0,b0,g0,c0,j0⟩=>[(0,v0_0),(1,v1_0),(5,c0),(6,vn p0),(7,vn b0)]) (fun ⟨p0,b0,g0,c0,j0⟩=>[rr w 3 Int c0 g0.length j0]) (fun ⟨p0,b0,g0,c0,j0⟩ H0=>Cells H0 (bl [rr w 3 Int c0 g0.length j0] ++ L) j0 g0) (fun ⟨p0,b0,g0,c0,j0⟩=>(p0,b0,g0)) (0,0,([]:Lb Int),vN,[]) C1 B0 (AJ (cs:=[]) (xs:=([]:Lb Int)) B0 L (AR _ _)) ?_
 rintro Z1 ⟨p0,b0,g0,c0,j0⟩ H0 V0 k0 Z0 E0 h
 unfold aq_l1 at h
 try dsimp only at h
 refine Aj<|Ae<|Ac I<|Ac I ?_
 have x0:=AG h0_0 k0
 have s2:=AX x0
 refine Ab (AY (xs:=a0) underlying140 I x0)<|Ab (AU (i:=b0) (j:=a0.length) I I)<|Aa<|AW I h (fun K0 h=>?_) (fun K0 h=>?_)
 refine Aq<|Aj<|Av<|Ae<|Ac I<|Ac I<|bk h fun I0 J1 h=>?_
 obtain ⟨X1,g2,q1,y1,Q0,D1,A1⟩:=Be x0 J1
 have s1:Q0 = [vI I0]:=D1; subst s1
 refine Ab (Bf 1 b0 I q1 I I y1)<|Bd I (A1 0 _ I)<|Ac I<|bk h fun G0 G1 h=>Ab (FV.subc (i:=I0) (j:=((p0:Nat):Int)) I I G1)<|Ag I<|Aa<|Aj<|Ae<|Ac I<|Ac I ?_
 have y0:=AG h1_0 k0
 have t2:=AX y0
 refine Ab (AY (xs:=a1) underlying140 I y0)<|Ab (AU (i:=b0) (j:=a1.length) I I)<|Aa<|MX.jo (α:=Int) (fun q0=>[(0,v0_0),(1,v1_0),(5,c0),(6,vn p0),(7,vn b0),(8,vI q0)]) (fun q0=>[rr w 3 Int c0 g0.length j0]) (fun q0=>q0) k0 h ?_ ?_
 rintro q0 A2 t0 b1 h
 try dsimp only at h
 refine Ae<|Ag I<|Aa<|Aj<|Ae<|Ac I<|Ab (FV.lss (i:=q0) (j:=0) I I)<|Aa<|MX.jo (α:=Nat × Int) (fun ⟨s0,d0⟩=>[(0,v0_0),(1,v1_0),(5,c0),(6,vn s0),(7,vn b0),(8,vI d0)]) (fun ⟨s0,d0⟩=>[rr w 3 Int c0 g0.length j0]) (fun ⟨s0,d0⟩=>(s0,d0)) t0 h ?_ ?_
 rintro ⟨s0,d0⟩ B2 W0 c1 h
 try dsimp only at h
 refine Am<|Ac I<|Ac I<|Ao .plain I (jA d0 (vI d0) W0 bg (e1 I)) fun x2 d2 u0 g1=>bk h fun W1 M1 h=>?_
 have F0:=Tt b1 (Tt c1 g1)
 refine BA .plain I (Bl (α:=Int) (ys:=([d0]:Lb Int)) M1 u0 (fun _ _=>.t1) bg I I (AO E0 F0) (BH (α:=Int) u0 .hd (jC d0 (vI d0) u0 L I))) fun U1 y2 ⟨R0,X0,j1,p1⟩=>Ag I<|Aa<|Aw<|Am<|Ac I<|Ab (Bc (i:=b0) (j:=1) I I (by omega))<|Ag I<|Aa ?_
 obtain ⟨Y0,D0⟩:=AB X0 .d1
 exact V0 (s0,b0 + 1,W1,U1,R0) Y0 (Tt Z0 (Tt F0 (Tt j1 D0))) (AO p1 D0) h
 intro c2 A0 h
 try dsimp only at h
 refine AW I h (fun M0 h=>?_) (fun M0 h=>?_)
 refine Ae<|Ac I<|bk h fun Q1 H1 h=>Ab (FV.addc (i:=q0) (j:=4294967296) I I H1)<|Ag I<|Aa<|Am<|Ag I<|Aa<|A0 (1,Q1) t0 (BO _ _) h
 refine Aq<|A0 (0,q0) t0 (BO _ _) h
 intro b2 z0 h
 try dsimp only at h
 refine AW I h (fun P0 h=>?_) (fun P0 h=>?_)
 refine Am<|Ac I<|Ac I<|Ac I<|bk h fun J0 K1 h=>?_
 obtain ⟨Y1,j2,u1,z1,U0,E1,B1⟩:=Be y0 K1
 have v1:U0 = [vI J0]:=E1; subst v1
 refine Ab (Bf 1 b0 I u1 I I z1)<|Bd I (B1 0 _ I)<|bk h fun R1 I1 h=>Ab (FV.subc (i:=G0) (j:=J0) I I I1)<|Ag I<|Aa<|z0 R1 k0 (BO _ _) h
 refine Aq<|z0 G0 k0 (BO _ _) h
 refine Ba I ?_
 have h:=x1 _ h
 try dsimp only at h
 refine Ae<|Ac I ?_
 have v0:=Bw k0 .hd
 have p2:=Bx k0 .hd
 refine bk h fun C2 P1 h=>jE (bd 181) I (e1 I) (fun w9 hw9=>aB_c n (v0.hL hL hw9) (Ah (By (α:=Int) (v:=c0) (xs:=g0) v0 L (Bg (α:=Int) k0 .hd E0 hL)) hw9) P1) I fun z2 V1 k1 ⟨v2,hu_,F1⟩=>?_
 subst hu_
 obtain ⟨C0,q2⟩:=v0.agr k1
 refine Ag I<|Aa<|Ar I<|Bb hb0 func176 I I ?_
 cases h
 exact ⟨C0.ag,fun w9 hw9=>⟨V1,I,C0.kd F1 hw9⟩⟩
structure Te where
  fc:Bool
  fD:Lb Int
  deriving DecidableEq
instance:Rep Te:=Rep.via (β:=Bool × (List Int)) fun x=>(x.fc,x.fD)
def aC_l1 (_n:Nat) (x0:Lb Int) (y0:Nat × U8 -> Oa (U8)):Nat × U8 -> Oa (U8)
  | (b0,j0,k0,p0,q0,s0,t0,u0,v0)=>(if b0 < x0.length then (([j0,k0,p0,q0,s0,t0,u0,v0]:Lb Ua)[b0 / 2]?).bind fun g0=>(x0[b0]?).bind fun d0=>(chk (32 * ((b0 % 2:Nat):Int))).bind fun z0=>(bH z0).bind fun c0=>y0 (b0 + 1,ax (b0 / 2) 0 (g0 + (shlU (ac d0) c0)) j0,ax (b0 / 2) 1 (g0 + (shlU (ac d0) c0)) k0,ax (b0 / 2) 2 (g0 + (shlU (ac d0) c0)) p0,ax (b0 / 2) 3 (g0 + (shlU (ac d0) c0)) q0,ax (b0 / 2) 4 (g0 + (shlU (ac d0) c0)) s0,ax (b0 / 2) 5 (g0 + (shlU (ac d0) c0)) t0,ax (b0 / 2) 6 (g0 + (shlU (ac d0) c0)) u0,ax (b0 / 2) 7 (g0 + (shlU (ac d0) c0)) v0) else some (j0,k0,p0,q0,s0,t0,u0,v0))
def aC_l2 (_n:Nat) (x0:Lb Int) (y0:Nat × U8 -> Oa (U8)):Nat × U8 -> Oa (U8)
  | (b0,j0,k0,p0,q0,s0,t0,u0,v0)=>(if b0 < x0.length then (([j0,k0,p0,q0,s0,t0,u0,v0]:Lb Ua)[b0 / 2]?).bind fun g0=>(x0[b0]?).bind fun d0=>(chk (32 * ((b0 % 2:Nat):Int))).bind fun z0=>(bH z0).bind fun c0=>y0 (b0 + 1,ax (b0 / 2) 0 (g0 + (shlU (ac d0) c0)) j0,ax (b0 / 2) 1 (g0 + (shlU (ac d0) c0)) k0,ax (b0 / 2) 2 (g0 + (shlU (ac d0) c0)) p0,ax (b0 / 2) 3 (g0 + (shlU (ac d0) c0)) q0,ax (b0 / 2) 4 (g0 + (shlU (ac d0) c0)) s0,ax (b0 / 2) 5 (g0 + (shlU (ac d0) c0)) t0,ax (b0 / 2) 6 (g0 + (shlU (ac d0) c0)) u0,ax (b0 / 2) 7 (g0 + (shlU (ac d0) c0)) v0) else some (j0,k0,p0,q0,s0,t0,u0,v0))
def aC_p (n:Nat) (a0:Te):Oa ((U8) × Int):=
  (mk 16 (0:Int)).bind fun c0=>(c0[15]?).bind fun _x28=>(put c0 ((15:Nat):Int) (2147483648:Int)).bind fun I0=>(aR_p n a0.fD I0).bind fun j0=>(if 0 < j0 then some ((0,0,0,0,0,0,0,0),(6:Int)) else (if j0 = 0 then (if a0.fc = true then (mk 17 (0:Int)).bind fun g0=>(g0[16]?).bind fun _x61=>(put g0 ((16:Nat):Int) (1:Int)).bind fun J0=>(aq_p n J0 a0.fD).bind fun M0=>Option.bind (ao (aC_l1 n M0) n (0,0,0,0,0,0,0,0,0)) (fun (k0,p0,q0,s0,t0,u0,v0,x0)=>some ((k0,p0,q0,s0,t0,u0,v0,x0),(0:Int))) else some ((0,0,0,0,0,0,0,0),(6:Int))) else jn (fun G0=>Option.bind (ao (aC_l2 n G0) n (0,0,0,0,0,0,0,0,0)) (fun (y0,z0,A0,B0,C0,D0,E0,F0)=>some ((y0,z0,A0,B0,C0,D0,E0,F0),(0:Int)))) (fun b0=>(if a0.fc = true then (mk 17 (0:Int)).bind fun d0=>(d0[16]?).bind fun _x369=>(put d0 ((16:Nat):Int) (1:Int)).bind fun H0=>(aq_p n H0 a0.fD).bind fun K0=>b0 K0 else b0 a0.fD))))
theorem aC_c (n:Nat) {L w} (hL:hl L w) (a0:Te) {v0_1:Vc} (h0_1:Rep.R w L [v0_1] a0.fD)  {r:(U8) × Int} (h:aC_p n a0 = some r) :
 Cl 147 #[.agg #[.bool a0.fc,v0_1]] w (aj w fun _ u=>u = .tuple #[.agg ((ak r.1)).toArray,vI r.2]):=by
 unfold aC_p at h
 refine AL func147 I I I fun _ cs0 hb0=>Ae<|RG.bx (AK w) I I fun c6 X4 G2 x5=>RG.nl zP G2 fun d6 V0 I2 y5=>Ag I<|Aa<|Ae<|bk h fun G6 q4 h=>RG.doesH .plain I (Does.mkH (α:=Int) (L:=L) q4 I2 bg I (fun _ _=>rfl)) fun Y5 p6 ⟨p5,k1,B5,Q1⟩=>Ag I<|Aa<|Ae<|Ac I<|bk h fun H4 g4 h=>?_
 obtain ⟨d2,Z4,v1,Y1,A2,U3,Q5⟩:=St.nth (α:=Int) k1 .hd Q1 g4
 obtain ⟨k2,c5,W1⟩:=BE (α:=Int) k1 .hd Y1
 obtain rfl:d2 = ⟨k2,0,none⟩:=by rw [W1] at v1; cases v1; rfl
 have B3:A2 = [vI H4]:=U3; subst B3
 refine Ab (Bf 1 15 I v1 I I Y1)<|bk h fun I6 u4 h=>RG.acts' .plain (Acts.set (α:=Int) (i:=15) u4 k1 W1 (fun _=>.hd) Q1 I I I I I I) fun y6 ⟨t5,y0,E5,t3⟩=>Aa<|Ae<|Bk 1 I<|Bd I ((y0.memA .t2) 1 _ I)<|Ac I<|bk h fun B1 z4 h=>Bj (vI B1) (bd 175) I (e2 I I) (fun w9 hw9=>aR_c n (y0.hL0 hL hw9) (y0.k0 h0_1 hw9) (Ah (St.lend (α:=Int) (L:=L) y0 .hd t3 hL) hw9) z4) I<|Ag I<|Aa<|Aj<|Ae<|Ac I<|Ab (FV.gtr (i:=B1) (j:=0) I I)<|Ac I<|RG.ifd (s:=19) I h (fun x2 h=>?_) (fun x2 h=>?_)
 refine Ap<|Ap<|Ap<|RG.un<|RG.un<|RG.un<|Ap<|Br I I<|Aa<|AE I<|Ae<|Ab (AS (vs:=[]) (u:=.agg zQ) ap (fun w9=>by kernel_rfl))<|AT zP y0 .t1 (ai I) fun z6 J1 F5=>Ag I<|Aa<|Ar I<|Au hb0 func147 I (.cons (.many (cs:=zP) I I (J1.memA .t1)) (.cons (.tmp I) .nil)) I ?_
 cases h
 exact J1.gv
 refine AM (Al I)<|AM (FV.eql (i:=B1) (j:=0) I I)<|AM (Al I)<|RG.ifd (s:=22) I h (fun y2 h=>?_) (fun y2 h=>?_)
 refine RG.fg 0 I<|AM (Bn I ((y0.memA .t2) 0 _ I))<|AM (Bz I)<|AM (BU I I)<|Bs I I<|Aa<|MX.ifnb I h (fun D1 h=>?_) (fun D1 h=>?_)
 refine Aq<|Ae<|Bk 1 I<|Bd I ((y0.memA .t2) 1 _ I)<|Ag I<|Aa<|Aj<|Ae<|Bk 0 I<|Bd I ((y0.memA .t2) 0 _ I)<|Aa<|MX.cond_kt I D1<|Ae<|bk h fun J6 v4 h=>RG.doesH .plain I (Does.mkH (α:=Int) (L:=L) v4 y0 bg I (fun _ _=>rfl)) fun E4 A6 ⟨u5,s1,G5,U1⟩=>Ag I<|Aa<|Ae<|Ac I<|bk h fun J4 p4 h=>?_
 obtain ⟨j2,j5,y1,b2,D2,Y3,V5⟩:=St.nth (α:=Int) s1 .hd U1 p4
 obtain ⟨q2,k5,X1⟩:=BE (α:=Int) s1 .hd b2
 obtain rfl:j2 = ⟨q2,0,none⟩:=by rw [X1] at y1; cases y1; rfl
 have C3:D2 = [vI J4]:=Y3; subst C3
 refine Ab (Bf 1 16 I y1 I I b2)<|bk h fun M4 x4 h=>RG.acts' .plain (Acts.set (α:=Int) (i:=16) x4 s1 X1 (fun _=>.hd) U1 I I I I I I) fun B6 ⟨v5,u1,H5,u3⟩=>Aa<|Am<|Ac I<|Ac I ?_
 have j1:=Bw u1 .hd
 have I5:=Bx u1 .hd
 refine bk h fun C1 A4 h=>jE (bd 176) I (e2 I I) (fun w9 hw9=>aq_c n (j1.hL hL hw9) (Ah (By (α:=Int) (v:=E4) (xs:=M4) j1 L (Bg (α:=Int) u1 .hd u3 hL)) hw9) (j1.km h0_1 hw9) A4) I fun C6 G4 q3 ⟨b6,hu_,Z3⟩=>?_
 subst hu_
 obtain ⟨U2,J5⟩:=j1.agr q3
 refine Ag I<|Aa<|Ae<|RG.nl zP U2 fun D6 d1 V2 k3=>Aa<|Aj<|Ae<|Ag I<|Aa<|Av ?_
 obtain ⟨H2,W2⟩:=AB V2 (.a0 (.a1 .done))
 obtain ⟨W5,M3,D3⟩:=am h
 refine MX.lo (α:=Nat × U8) (fun ⟨b0,z0,A0,B0,C0,D0,E0,F0,G0⟩=>[(2,vP V0),(6,G4),(8,vP d1),(9,vn b0)]) (fun ⟨b0,z0,A0,B0,C0,D0,E0,F0,G0⟩=>[.cells d1 [vU z0,vU A0,vU B0,vU C0,vU D0,vU E0,vU F0,vU G0] 32,.cells V0 zP 32]) (fun ⟨b0,z0,A0,B0,C0,D0,E0,F0,G0⟩=>(b0,z0,A0,B0,C0,D0,E0,F0,G0)) (0,0,0,0,0,0,0,0,0) M3 H2 ?_
 rintro U4 ⟨b0,z0,A0,B0,C0,D0,E0,F0,G0⟩ E6 E2 X0 K1 h
 unfold aC_l1 at h
 try dsimp only at h
 refine Aj<|Ae<|Ac I<|Ac I ?_
 have z1:=Af Z3 (Tt k3 (Tt W2 K1))
 have K5:=AX z1
 refine Ab (AY (xs:=C1) underlying140 I z1)<|Ab (AU (i:=b0) (j:=C1.length) I I)<|Aa<|AW I h (fun s2 h=>?_) (fun s2 h=>?_)
 refine Aq<|Aj<|Av<|du 17 fun j0 v0=>Rv 0 j0 I v0 (fun _=>Al I)<|Rv 1 j0 I v0 (fun _=>FV.quoN (i:=b0) (j:=2) I I I (by omega))<|Rv 2 j0 I v0 (fun _=>Al I)<|Rv 3 j0 I v0 (fun _=>FV.quoN (i:=b0) (j:=2) I I I (by omega))<|bk h fun t0 Z0 h=>Rv 4 j0 I v0 (fun _=>AI (m:=1) (k:=b0 / 2) (len:=8) I I I I (bJ Z0 I))<|Rx 5 229376 j0 I v0 (Bn I ((aY (p:=⟨d1,0,none⟩) (cs:=([z0,A0,B0,C0,D0,E0,F0,G0]:Lb Ua).map (fun z9:Ua=>(vU z9:Vc)) ++ []) (i:=b0 / 2) (X0.memA .hd) (bO (fun z9:Ua=>(vU z9:Vc)) Z0)) 0 _ I))<|Rv 6 j0 I v0 (fun _=>Al I)<|Rv 7 j0 I v0 (fun _=>Al I)<|bk h fun d0 d4 h=>?_
 obtain ⟨Q4,Y4,v3,F3,z2,Q3,J3⟩:=Be z1 d4
 have x3:z2 = [vI d0]:=Q3; subst x3
 refine Rv 8 j0 I v0 (fun _=>Bf 1 b0 I v3 I I F3)<|Rx 9 246784 j0 I v0 (Bn I (J3 0 _ I))<|Rv 10 j0 I v0 (fun _=>FV.convU (i:=d0) underlying3 underlying30 I)<|Rv 11 j0 I v0 (fun _=>Al I)<|Rv 12 j0 I v0 (fun _=>FV.remN (i:=b0) (j:=2) I I I)<|bk h fun B4 b4 h=>Rv 13 j0 I v0 (fun _=>FV.mulc (i:=32) (j:=((b0 % 2:Nat):Int)) I I b4)<|bk h fun q0 G3 h=>Rv 14 j0 I v0 (fun _=>FV.shlI (a:=ac d0) (i:=B4) I I G3)<|Rv 15 j0 I v0 (fun _=>FV.addU (a:=t0) (b:=shlU (ac d0) q0) I I) ?_
 have P5:=aY (p:=⟨d1,0,none⟩) (cs:=([z0,A0,B0,C0,D0,E0,F0,G0]:Lb Ua).map (fun z9:Ua=>(vU z9:Vc)) ++ []) (i:=b0 / 2) (X0.memA .hd) (bO (fun z9:Ua=>(vU z9:Vc)) Z0)
 refine Rv 16 j0 I v0 (fun _=>AI (m:=1) (k:=b0 / 2) (len:=8) I I I I (bJ Z0 I))<|BC 17 262143 j0 I I .plain (Acts.storeArr (fun z9:Ua=>(vU z9:Vc)) (xs:=([z0,A0,B0,C0,D0,E0,F0,G0]:Lb Ua)) (pre:=[]) (post:=[]) (i:=b0 / 2) (m:=8) (x:=t0 + (shlU (ac d0) q0)) (old:=[vU z0,vU A0,vU B0,vU C0,vU D0,vU E0,vU F0,vU G0]) (new' :=[vW ((ax (b0 / 2) 0 (t0 + (shlU (ac d0) q0)) z0).toNat:Int),vW ((ax (b0 / 2) 1 (t0 + (shlU (ac d0) q0)) A0).toNat:Int),vW ((ax (b0 / 2) 2 (t0 + (shlU (ac d0) q0)) B0).toNat:Int),vW ((ax (b0 / 2) 3 (t0 + (shlU (ac d0) q0)) C0).toNat:Int),vW ((ax (b0 / 2) 4 (t0 + (shlU (ac d0) q0)) D0).toNat:Int),vW ((ax (b0 / 2) 5 (t0 + (shlU (ac d0) q0)) E0).toNat:Int),vW ((ax (b0 / 2) 6 (t0 + (shlU (ac d0) q0)) F0).toNat:Int),vW ((ax (b0 / 2) 7 (t0 + (shlU (ac d0) q0)) G0).toNat:Int)]) I I (bJ Z0 I) X0 .hd I (ki _ _ _) I I (fun _=>⟨I,I⟩) I I) fun g6 J2 X2=>AN (dk j0)<|Aw<|Am<|Ac I<|Ab (Bc (i:=b0) (j:=1) I I (by omega))<|Ag I<|Aa<|E2 (b0 + 1,ax (b0 / 2) 0 (t0 + (shlU (ac d0) q0)) z0,ax (b0 / 2) 1 (t0 + (shlU (ac d0) q0)) A0,ax (b0 / 2) 2 (t0 + (shlU (ac d0) q0)) B0,ax (b0 / 2) 3 (t0 + (shlU (ac d0) q0)) C0,ax (b0 / 2) 4 (t0 + (shlU (ac d0) q0)) D0,ax (b0 / 2) 5 (t0 + (shlU (ac d0) q0)) E0,ax (b0 / 2) 6 (t0 + (shlU (ac d0) q0)) F0,ax (b0 / 2) 7 (t0 + (shlU (ac d0) q0)) G0) J2 (Tt K1 X2) h
 refine Ba I ?_
 have h:=D3 _ h
 try dsimp only at h
 refine Ae<|Ab (AA I (X0.memA .hd))<|AT [vU z0,vU A0,vU B0,vU C0,vU D0,vU E0,vU F0,vU G0] X0 .t1 (ai I) fun j6 F1 z5=>Ag I<|Aa<|Ar I<|Au hb0 func147 I (.cons (.many (cs:=[vU z0,vU A0,vU B0,vU C0,vU D0,vU E0,vU F0,vU G0]) I I (F1.memA .t1)) (.cons (.tmp I) .nil)) I ?_
 cases h
 exact F1.gv
 refine Ae<|Ab (AS (vs:=[]) (u:=.agg zQ) ap (fun w9=>by kernel_rfl))<|AT zP y0 .t1 (ai I) fun k6 G1 A5=>Ag I<|Aa<|Ar I<|Au hb0 func147 I (.cons (.many (cs:=zP) I I (G1.memA .t1)) (.cons (.tmp I) .nil)) I ?_
 cases h
 exact G1.gv
 refine Ap<|Ap<|Ap<|AM (Bq I I)<|Bs I I<|Aa<|Bv I<|Aq<|Ae<|Bk 1 I<|Bd I ((y0.memA .t2) 1 _ I)<|Ag I<|Aa<|Aj<|Ae<|Bk 0 I<|Bd I ((y0.memA .t2) 0 _ I)<|Aa<|MX.jf (α:=(Lb Int) × Vc) (fun ⟨U0,W0⟩=>[(2,vP V0),(6,W0)]) (fun ⟨U0,W0⟩=>[.cells V0 zP 32]) (fun ⟨U0,W0⟩ c2=>Rep.R c2 (bl [.cells V0 zP 32] ++ L) [W0] U0) (fun ⟨U0,W0⟩=>U0) y0 h ?_ ?_
 rintro ⟨U0,W0⟩ c2 K2 C5 R3 h
 try dsimp only at h
 refine Ae<|RG.nl zP K2 fun q6 c1 M2 Y2=>Aa<|Aj<|Ae<|Ag I<|Aa<|Av ?_
 obtain ⟨X5,P3,E3⟩:=am h
 refine MX.lo (α:=Nat × U8) (fun ⟨c0,H0,I0,J0,K0,M0,P0,Q0,R0⟩=>[(2,vP V0),(6,W0),(8,vP c1),(9,vn c0)]) (fun ⟨c0,H0,I0,J0,K0,M0,P0,Q0,R0⟩=>[.cells c1 [vU H0,vU I0,vU J0,vU K0,vU M0,vU P0,vU Q0,vU R0] 32,.cells V0 zP 32]) (fun ⟨c0,H0,I0,J0,K0,M0,P0,Q0,R0⟩=>(c0,H0,I0,J0,K0,M0,P0,Q0,R0)) (0,0,0,0,0,0,0,0,0) P3 M2 ?_
 rintro W4 ⟨c0,H0,I0,J0,K0,M0,P0,Q0,R0⟩ F6 F2 Y0 M1 h
 unfold aC_l2 at h
 try dsimp only at h
 refine Aj<|Ae<|Ac I<|Ac I ?_
 have A1:=Af R3 (Tt Y2 M1)
 have M5:=AX A1
 refine Ab (AY (xs:=U0) underlying140 I A1)<|Ab (AU (i:=c0) (j:=U0.length) I I)<|Aa<|AW I h (fun u2 h=>?_) (fun u2 h=>?_)
 refine Aq<|Aj<|Av<|du 17 fun p0 x0=>Rv 0 p0 I x0 (fun _=>Al I)<|Rv 1 p0 I x0 (fun _=>FV.quoN (i:=c0) (j:=2) I I I (by omega))<|Rv 2 p0 I x0 (fun _=>Al I)<|Rv 3 p0 I x0 (fun _=>FV.quoN (i:=c0) (j:=2) I I I (by omega))<|bk h fun u0 b1 h=>Rv 4 p0 I x0 (fun _=>AI (m:=1) (k:=c0 / 2) (len:=8) I I I I (bJ b1 I))<|Rx 5 229376 p0 I x0 (Bn I ((aY (p:=⟨c1,0,none⟩) (cs:=([H0,I0,J0,K0,M0,P0,Q0,R0]:Lb Ua).map (fun z9:Ua=>(vU z9:Vc)) ++ []) (i:=c0 / 2) (Y0.memA .hd) (bO (fun z9:Ua=>(vU z9:Vc)) b1)) 0 _ I))<|Rv 6 p0 I x0 (fun _=>Al I)<|Rv 7 p0 I x0 (fun _=>Al I)<|bk h fun g0 j4 h=>?_
 obtain ⟨R4,b5,y3,H3,B2,V3,K3⟩:=Be A1 j4
 have z3:B2 = [vI g0]:=V3; subst z3
 refine Rv 8 p0 I x0 (fun _=>Bf 1 c0 I y3 I I H3)<|Rx 9 246784 p0 I x0 (Bn I (K3 0 _ I))<|Rv 10 p0 I x0 (fun _=>FV.convU (i:=g0) underlying3 underlying30 I)<|Rv 11 p0 I x0 (fun _=>Al I)<|Rv 12 p0 I x0 (fun _=>FV.remN (i:=c0) (j:=2) I I I)<|bk h fun C4 c4 h=>Rv 13 p0 I x0 (fun _=>FV.mulc (i:=32) (j:=((c0 % 2:Nat):Int)) I I c4)<|bk h fun s0 I3 h=>Rv 14 p0 I x0 (fun _=>FV.shlI (a:=ac g0) (i:=C4) I I I3)<|Rv 15 p0 I x0 (fun _=>FV.addU (a:=u0) (b:=shlU (ac g0) s0) I I) ?_
 have R5:=aY (p:=⟨c1,0,none⟩) (cs:=([H0,I0,J0,K0,M0,P0,Q0,R0]:Lb Ua).map (fun z9:Ua=>(vU z9:Vc)) ++ []) (i:=c0 / 2) (Y0.memA .hd) (bO (fun z9:Ua=>(vU z9:Vc)) b1)
 refine Rv 16 p0 I x0 (fun _=>AI (m:=1) (k:=c0 / 2) (len:=8) I I I I (bJ b1 I))<|BC 17 262143 p0 I I .plain (Acts.storeArr (fun z9:Ua=>(vU z9:Vc)) (xs:=([H0,I0,J0,K0,M0,P0,Q0,R0]:Lb Ua)) (pre:=[]) (post:=[]) (i:=c0 / 2) (m:=8) (x:=u0 + (shlU (ac g0) s0)) (old:=[vU H0,vU I0,vU J0,vU K0,vU M0,vU P0,vU Q0,vU R0]) (new' :=[vW ((ax (c0 / 2) 0 (u0 + (shlU (ac g0) s0)) H0).toNat:Int),vW ((ax (c0 / 2) 1 (u0 + (shlU (ac g0) s0)) I0).toNat:Int),vW ((ax (c0 / 2) 2 (u0 + (shlU (ac g0) s0)) J0).toNat:Int),vW ((ax (c0 / 2) 3 (u0 + (shlU (ac g0) s0)) K0).toNat:Int),vW ((ax (c0 / 2) 4 (u0 + (shlU (ac g0) s0)) M0).toNat:Int),vW ((ax (c0 / 2) 5 (u0 + (shlU (ac g0) s0)) P0).toNat:Int),vW ((ax (c0 / 2) 6 (u0 + (shlU (ac g0) s0)) Q0).toNat:Int),vW ((ax (c0 / 2) 7 (u0 + (shlU (ac g0) s0)) R0).toNat:Int)]) I I (bJ b1 I) Y0 .hd I (ki _ _ _) I I (fun _=>⟨I,I⟩) I I) fun s6 P2 Z2=>AN (dk p0)<|Aw<|Am<|Ac I<|Ab (Bc (i:=c0) (j:=1) I I (by omega))<|Ag I<|Aa<|F2 (c0 + 1,ax (c0 / 2) 0 (u0 + (shlU (ac g0) s0)) H0,ax (c0 / 2) 1 (u0 + (shlU (ac g0) s0)) I0,ax (c0 / 2) 2 (u0 + (shlU (ac g0) s0)) J0,ax (c0 / 2) 3 (u0 + (shlU (ac g0) s0)) K0,ax (c0 / 2) 4 (u0 + (shlU (ac g0) s0)) M0,ax (c0 / 2) 5 (u0 + (shlU (ac g0) s0)) P0,ax (c0 / 2) 6 (u0 + (shlU (ac g0) s0)) Q0,ax (c0 / 2) 7 (u0 + (shlU (ac g0) s0)) R0) P2 (Tt M1 Z2) h
 refine Ba I ?_
 have h:=E3 _ h
 try dsimp only at h
 refine Ae<|Ab (AA I (Y0.memA .hd))<|AT [vU H0,vU I0,vU J0,vU K0,vU M0,vU P0,vU Q0,vU R0] Y0 .t1 (ai I) fun t6 H1 D5=>Ag I<|Aa<|Ar I<|Au hb0 func147 I (.cons (.many (cs:=[vU H0,vU I0,vU J0,vU K0,vU M0,vU P0,vU Q0,vU R0]) I I (H1.memA .t1)) (.cons (.tmp I) .nil)) I ?_
 cases h
 exact H1.gv
 intro V4 E1 h
 try dsimp only at h
 refine MX.ifb I h (fun v2 h=>?_) (fun v2 h=>?_)
 refine Ae<|bk h fun H6 s4 h=>RG.doesH .plain I (Does.mkH (α:=Int) (L:=L) s4 y0 bg I (fun _ _=>rfl)) fun D4 u6 ⟨q5,p1,b3,R1⟩=>Ag I<|Aa<|Ae<|Ac I<|bk h fun I4 k4 h=>?_
 obtain ⟨g2,d5,x1,Z1,C2,W3,U5⟩:=St.nth (α:=Int) p1 .hd R1 k4
 obtain ⟨p2,g5,V1⟩:=BE (α:=Int) p1 .hd Z1
 obtain rfl:g2 = ⟨p2,0,none⟩:=by rw [V1] at x1; cases x1; rfl
 have A3:C2 = [vI I4]:=W3; subst A3
 refine Ab (Bf 1 16 I x1 I I Z1)<|bk h fun K4 t4 h=>RG.acts' .plain (Acts.set (α:=Int) (i:=16) t4 p1 V1 (fun _=>.hd) R1 I I I I I I) fun v6 ⟨s5,q1,c3,s3⟩=>Aa<|Am<|Ac I<|Ac I ?_
 have g1:=Bw q1 .hd
 have d3:=Bx q1 .hd
 refine bk h fun P4 y4 h=>jE (bd 176) I (e2 I I) (fun w9 hw9=>aq_c n (g1.hL hL hw9) (Ah (By (α:=Int) (v:=D4) (xs:=K4) g1 L (Bg (α:=Int) q1 .hd s3 hL)) hw9) (g1.km h0_1 hw9) y4) I fun x6 F4 p3 ⟨Z5,hu_,X3⟩=>?_
 subst hu_
 obtain ⟨Q2,g3⟩:=g1.agr p3
 refine Ag I<|Aa ?_
 obtain ⟨R2,P1⟩:=AB Q2 (.a1 .done)
 exact E1 (P4,F4) R2 (Tt b3 (Tt c3 (Tt d3 (Tt g3 P1)))) (Af X3 P1) h
 refine Aq ?_
 obtain ⟨I1,j3⟩:=AB y0 (.a1 .done)
 exact E1 (a0.fD,v0_1) I1 j3 (AG h0_1 I1) h
structure Tg where
  fN:Te
  fD:Te
  deriving DecidableEq
instance:Rep Tg:=Rep.via (β:=Te × Te) fun x=>(x.fN,x.fD)
def br_p (n:Nat) (a0:Tg):Oa (Tb × Int):=
  (aC_p n a0.fN).bind fun b0=>(aC_p n a0.fD).bind fun c0=>(if b0.2 = 0 then (if c0.2 = 0 then some ((⟨b0.1,c0.1⟩:Tb),(0:Int)) else some ((⟨(0,0,0,0,0,0,0,0),(0,0,0,0,0,0,0,0)⟩:Tb),(6:Int))) else some ((⟨(0,0,0,0,0,0,0,0),(0,0,0,0,0,0,0,0)⟩:Tb),(6:Int)))
theorem br_c (n:Nat) {L w} (hL:hl L w) (a0:Tg) {v0_1:Vc} (h0_1:Rep.R w L [v0_1] a0.fN.fD) {v0_3:Vc} (h0_3:Rep.R w L [v0_3] a0.fD.fD)  {r:Tb × Int} (h:br_p n a0 = some r) :
 Cl 96 #[.agg #[.bool a0.fN.fc,v0_1,.bool a0.fD.fc,v0_3]] w (aj w fun _ u=>u = .tuple #[.agg ((ab r.1)).toArray,vI r.2]):=by
 unfold br_p at h
 refine AL func96 I I I fun _ cs0 hb0=>Ae<|RG.bx (AK w) I I fun R0 B0 v0 F0=>RG.nl zL v0 fun U0 C0 g0 G0=>Ag I<|Aa<|Ae<|Bk 0 I<|Ab (AQ (cs:=[.bool a0.fN.fc,v0_1]) I I (ae (g0.memA .t1) 0 2))<|bk h fun b0 z0 h=>Bj (.tuple #[.agg ((ak b0.1)).toArray,vI b0.2]) (bd 147) I (e1 I) (fun w9 hw9=>aC_c n (g0.hL0 hL hw9) a0.fN (g0.k0 h0_1 hw9) z0) I<|Ac I<|Ab (Ai I I)<|Ab (Ai I I)<|RG.nl zP g0 fun V0 D0 x0 H0=>AT (ak b0.1) x0 .hd (ai I) fun W0 j0 I0=>Ag I<|Aa<|Ae<|Bk 2 I<|Ab (AQ (cs:=[.bool a0.fD.fc,v0_3]) I I (ae (j0.memA .t2) 2 2))<|bk h fun c0 A0 h=>Bj (.tuple #[.agg ((ak c0.1)).toArray,vI c0.2]) (bd 147) I (e1 I) (fun w9 hw9=>aC_c n (j0.hL0 hL hw9) a0.fD (j0.k0 h0_3 hw9) A0) I<|Ac I<|Ab (Ai I I)<|Ab (Ai I I)<|RG.nl zP j0 fun X0 E0 y0 J0=>AT (ak c0.1) y0 .hd (ai I) fun Y0 d0 K0=>Ag I<|Aa<|Aj<|Ae<|Ac I<|Ab (BB (i:=b0.2) (j:=0) I I) ?_
 refine Ac I<|RG.ifn (s:=22) I h (fun t0 h=>?_) (fun t0 h=>?_)
 refine AM (Al I)<|AM (BB (i:=c0.2) (j:=0) I I)<|Bs I I<|Aa<|BI I h (fun u0 h=>?_) (fun u0 h=>?_)
 refine Aq<|Ae<|Ab (AA I (d0.memA .t1))<|Ab (AA I (d0.memA .hd))<|Ab (AS (vs:=[.agg ((ak b0.1)).toArray,.agg ((ak c0.1)).toArray]) (u:=.agg ((ak b0.1 ++ ak c0.1)).toArray) (e2 I I) (fun w9=>by kernel_rfl))<|AT (ak b0.1 ++ ak c0.1) d0 .t2 (ai I) fun Z0 p0 M0=>Ag I<|Aa<|Ar I<|Au hb0 func96 I (.cons (.many (cs:=(ak b0.1 ++ ak c0.1)) I I (p0.memA .t2)) (.cons (.tmp I) .nil)) I ?_
 cases h
 exact p0.gv
 refine Ae<|Ab (AS (vs:=[]) (u:=.agg zM) ap (fun w9=>by kernel_rfl))<|AT zL d0 .t2 (ai I) fun b1 q0 P0=>Ag I<|Aa<|Ar I<|Au hb0 func96 I (.cons (.many (cs:=zL) I I (q0.memA .t2)) (.cons (.tmp I) .nil)) I ?_
 cases h
 exact q0.gv
 refine Ap<|Ap<|Br I I<|Aa<|AE I<|Ae<|Ab (AS (vs:=[]) (u:=.agg zM) ap (fun w9=>by kernel_rfl))<|AT zL d0 .t2 (ai I) fun c1 s0 Q0=>Ag I<|Aa<|Ar I<|Au hb0 func96 I (.cons (.many (cs:=zL) I I (s0.memA .t2)) (.cons (.tmp I) .nil)) I ?_
 cases h
 exact s0.gv
def bv_l1 (_n:Nat) (a0:Lb Int) (j0:Int × Nat × (Lb Int) -> Oa ((Lb Int) × Int)):Int × Nat × (Lb Int) -> Oa ((Lb Int) × Int)
  | (g0,b0,d0)=>(if b0 < a0.length then (a0[b0]?).bind fun s0=>(chk (2 * s0)).bind fun k0=>(chk (k0 + g0)).bind fun c0=>(cK c0 4294967296).bind fun p0=>(app d0 ([p0]:Lb Int)).bind fun t0=>(dZ c0 4294967296).bind fun q0=>j0 (q0,b0 + 1,t0) else some (d0,g0))
def bv_p (n:Nat) (a0:Lb Int) (a1:Int):Oa (Lb Int):=
  Option.bind (ao (bv_l1 n a0) n (a1,0,([]:Lb Int))) (fun (c0,g0)=>(app c0 ([g0]:Lb Int)).bind fun b0=>(aB_p n b0).bind fun d0=>some d0)
theorem bv_c (n:Nat) {L w} (hL:hl L w) {a0:Lb Int} {v0_0:Vc} (h0_0:Rep.R w L [v0_0] a0) {a1:Int}  {r:Lb Int} (h:bv_p n a0 a1 = some r) :
 Cl 204 #[v0_0,vI a1] w (aj w fun w' u=>∃ v0_0:Vc,u = v0_0/\Rep.R w' L [v0_0] r):=by
 unfold bv_p at h
 have hS0:=AK w
 refine AL func204 I I I fun _ cs0 hb0=>Ae<|Ag I<|Aa<|Ae<|Ag I<|Aa<|Aj<|Ae<|Ag I<|Aa<|Av ?_
 have x0:=hS0.nilRow 3 (Rep.size Int)
 have P1:=BT hS0 3 (Rep.size Int)
 obtain ⟨W1,c1,Y0⟩:=am h
 refine BR (α:=Int × Nat × (Lb Int) × Vc × (Lb Vc)) (fun ⟨b0,c0,d0,k0,g0⟩=>[(0,v0_0),(1,vI b0),(5,k0),(6,vn c0)]) (fun ⟨b0,c0,d0,k0,g0⟩=>[rr w 3 Int k0 d0.length g0]) (fun ⟨b0,c0,d0,k0,g0⟩ D0=>Cells D0 (bl [rr w 3 Int k0 d0.length g0] ++ L) g0 d0) (fun ⟨b0,c0,d0,k0,g0⟩=>(b0,c0,d0)) (a1,0,([]:Lb Int),vN,[]) c1 x0 (AJ (cs:=[]) (xs:=([]:Lb Int)) x0 L (AR _ _)) ?_
 rintro H1 ⟨b0,c0,d0,k0,g0⟩ D0 I0 u0 Q0 B0 h
 unfold bv_l1 at h
 try dsimp only at h
 refine Aj<|Ae<|Ac I<|Ac I ?_
 have v0:=AG h0_0 u0
 have V1:=AX v0
 refine Ab (AY (xs:=a0) underlying140 I v0)<|Ab (AU (i:=c0) (j:=a0.length) I I)<|Aa<|AW I h (fun F0 h=>?_) (fun F0 h=>?_)
 refine Aq<|Aj<|Av<|Ae<|Ac I<|Ac I<|bk h fun E0 u1 h=>?_
 obtain ⟨G1,K1,W0,Z0,G0,g1,b1⟩:=Be v0 u1
 have X0:G0 = [vI E0]:=g1; subst X0
 refine Ab (Bf 1 c0 I W0 I I Z0)<|Bd I (b1 0 _ I)<|bk h fun z1 k1 h=>Ab (FV.mulc (i:=2) (j:=E0) I I k1)<|Ac I<|bk h fun C0 p1 h=>Ab (FV.addc (i:=z1) (j:=b0) I I p1)<|Ag I<|Aa<|Ae<|Ac I<|Ac I<|bk h fun j0 q1 h=>Ab (FV.remc (i:=C0) (j:=4294967296) I I q1)<|Ao .plain I (jA j0 (vI j0) u0 bg (e1 I)) fun Y1 I1 p0 z0=>bk h fun E1 v1 h=>BA .plain I (Bl (α:=Int) (ys:=([j0]:Lb Int)) v1 p0 (fun _ _=>.t1) bg I I (AO B0 z0) (BH (α:=Int) p0 .hd (jC j0 (vI j0) p0 L I))) fun B1 Z1 ⟨H0,J0,M0,U0⟩=>Ag I<|Aa<|Am<|Ac I<|bk h fun A1 s1 h=>Ab (FV.quoc (i:=C0) (j:=4294967296) I I s1)<|Ag I<|Aa<|Aw<|Am<|Ac I<|Ab (Bc (i:=c0) (j:=1) I I (by omega))<|Ag I<|Aa ?_
 obtain ⟨K0,A0⟩:=AB J0 .d1
 exact I0 (A1,c0 + 1,E1,B1,H0) K0 (Tt Q0 (Tt z0 (Tt M0 A0))) (AO U0 A0) h
 refine Ba I ?_
 have h:=Y0 _ h
 try dsimp only at h
 refine Ae<|Ac I<|Ac I<|Ao .plain I (jA b0 (vI b0) u0 bg (e1 I)) fun b2 J1 q0 P0=>bk h fun F1 x1 h=>BA .plain I (Bl (α:=Int) (ys:=([b0]:Lb Int)) x1 q0 (fun _ _=>.t1) bg I I (AO B0 P0) (BH (α:=Int) q0 .hd (jC b0 (vI b0) q0 L I))) fun C1 c2 ⟨M1,s0,Q1,V0⟩=>?_
 have t0:=Bw s0 .t1
 have R1:=Bx s0 .t1
 refine bk h fun g2 y1 h=>jE (bd 181) I (e1 I) (fun w9 hw9=>aB_c n (t0.hL hL hw9) (Ah (By (α:=Int) (v:=C1) (xs:=F1) t0 L (Bg (α:=Int) s0 .t1 V0 hL)) hw9) y1) I fun d2 D1 R0 ⟨X1,hu_,j1⟩=>?_
 subst hu_
 obtain ⟨y0,U1⟩:=t0.agr R0
 refine Ag I<|Aa<|Ar I<|Bb hb0 func204 I I ?_
 cases h
 exact ⟨y0.ag,fun w9 hw9=>⟨D1,I,y0.kd j1 hw9⟩⟩
def aF_l1 (n:Nat) (a0:Lb Int) (g0:Int) (a1:Lb Int) (p0:(Lb Int) × Int × (Lb Int) -> Oa ((Lb Int) × (Lb Int))):(Lb Int) × Int × (Lb Int) -> Oa ((Lb Int) × (Lb Int))
  | (k0,c0,b0)=>(if 0 <= c0 then (idx a0 g0).bind fun x0=>(bH c0).bind fun q0=>(cK (shrS x0 q0) 2).bind fun t0=>(bv_p n k0 t0).bind fun d0=>(aR_p n d0 a1).bind fun C0=>jn (fun (z0,A0)=>(chk (c0 - 1)).bind fun u0=>p0 (z0,u0,A0)) (fun j0=>(if 0 <= C0 then (aq_p n d0 a1).bind fun D0=>(idx b0 g0).bind fun y0=>(bH c0).bind fun s0=>(chk (y0 + (shlS 1 s0))).bind fun v0=>(put b0 ((g0.toNat:Nat):Int) v0).bind fun B0=>j0 (D0,B0) else j0 (d0,b0))) else some (k0,b0))
def aF_l2 (n:Nat) (a0:Lb Int) (a1:Lb Int) (g0:(Lb Int) × Int × (Lb Int) -> Oa ((Lb Int) × (Lb Int))):(Lb Int) × Int × (Lb Int) -> Oa ((Lb Int) × (Lb Int))
  | (c0,b0,d0)=>(if 0 <= b0 then Option.bind (ao (aF_l1 n a0 b0 a1) n (c0,31,d0)) (fun (k0,p0)=>(chk (b0 - 1)).bind fun j0=>g0 (k0,j0,p0)) else some (d0,c0))
def aF_p (n:Nat) (a0:Lb Int) (a1:Lb Int):Oa ((Lb Int) × (Lb Int)):=
  (if ((a0.length:Nat):Int) <= (((a1.length:Nat):Int) - 1) then (app ([]:Lb Int) a0).bind fun g0=>some (([]:Lb Int),g0) else (mk (((a0.length:Nat):Int) - (((a1.length:Nat):Int) - 1)) (0:Int)).bind fun b0=>(cut a0 (((a0.length:Nat):Int) - (((a1.length:Nat):Int) - 1)) (a0.length:Int)).bind fun j0=>(app ([]:Lb Int) j0).bind fun k0=>Option.bind (ao (aF_l2 n a0 a1) n (k0,((b0.length:Nat):Int) - 1,b0)) (fun (d0,c0)=>(aB_p n d0).bind fun p0=>some (p0,c0)))
theorem aF_c (n:Nat) {L w} (hL:hl L w) {a0:Lb Int} {v0_0:Vc} (h0_0:Rep.R w L [v0_0] a0) {a1:Lb Int} {v1_0:Vc} (h1_0:Rep.R w L [v1_0] a1)  {r:(Lb Int) × (Lb Int)} (h:aF_p n a0 a1 = some r) :
 Cl 184 #[v0_0,v1_0] w (aj w fun w' u=>∃ v0_0 v1_0:Vc,u = .tuple #[v0_0,v1_0]/\Rep.R w' L [v0_0] r.1/\Rep.R w' L [v1_0] r.2):=by
 unfold aF_p at h
 have hS0:=AK w
 refine AL func184 I I I fun _ cs0 hb0=>Ae<|Ag I<|Ag I<|Aa<|Ae<|Ac I ?_
 have hl1:=AX h1_0
 refine Ab (AY (xs:=a1) underlying140 I h1_0)<|Ab (FV.subI (i:=((a1.length:Nat):Int)) (j:=1) I I (by omega))<|Ag I<|Aa<|Aj<|Ae<|Ac I ?_
 have hl2:=AX h0_0
 refine Ab (AY (xs:=a0) underlying140 I h0_0)<|Ac I<|Ab (FV.leq (i:=((a0.length:Nat):Int)) (j:=((a1.length:Nat):Int) - 1) I I)<|Aa<|AW I h (fun c3 h=>?_) (fun c3 h=>?_)
 refine Ae<|Ao .plain I (jB Int hS0 bg) fun C4 V3 M0 g4=>Ac I<|bk h fun G3 p3 h=>BA .plain I (Bl (α:=Int) (ys:=a0) p3 M0 (fun _ _=>.hd) bg I I (jD Int M0 L) (Src.rep (AG h0_0 M0))) fun D1 H4 ⟨c4,J0,j4,u2⟩=>Ag I<|Ag I<|Aa<|Ar I ?_
 have s4:=Bm (α:=Int) J0 L
 have E0:=Bw J0 .hd
 have k4:=Bx J0 .hd
 have V2:=By (α:=Int) (v:=D1) (xs:=G3) E0 L (Bg (α:=Int) J0 .hd u2 hL)
 refine Au hb0 func184 I (.cons (.tmp I) (.cons (.tmp I) .nil)) I ?_
 cases h
 exact ⟨E0.ag,fun w9 hw9=>⟨vN,D1,I,E0.kd (Bm (α:=Int) E0 L) hw9,E0.kd V2 hw9⟩⟩
 refine Aq<|Ae<|Ac I<|Ab (AY (xs:=a0) underlying140 I h0_0)<|Ac I<|Ab (FV.subI (i:=((a0.length:Nat):Int)) (j:=((a1.length:Nat):Int) - 1) I I (by omega))<|bk h fun G0 C1 h=>Ao .plain I (Does.mk (α:=Int) C1 hS0 bg I) fun I4 c0 j1 p4=>Ag I<|Aa<|Ae<|Ao .plain I (jB Int j1 bg) fun J4 W3 U0 g2=>Ac I<|Ac I ?_
 have z1:=AG h0_0 U0
 refine Ab (AY (xs:=a0) underlying140 I z1)<|Ac I<|Ab (FV.subI (i:=((a0.length:Nat):Int)) (j:=((a1.length:Nat):Int) - 1) I I (by omega))<|bk h fun I3 s3 h=>RG.valE .plain I (FV.cutL (α:=Int) s3 I I z1 ⟨_,I⟩ I) fun B4 W2=>bk h fun G1 t3 h=>BA .plain I (Bl (α:=Int) (ys:=I3) t3 U0 (fun _ _=>.hd) bg I I (jD Int U0 L) (Src.rep W2)) fun E1 K4 ⟨d4,F0,j2,v2⟩=>Ag I<|Aa<|Aj<|Ae<|Ac I ?_
 have q4:G0.length <= 4294967296:=St.rowLe (α:=Int) F0 .t1
 obtain ⟨P3,b4,A2⟩:=St.rowV (α:=Int) F0 .t1
 refine Ab (FV.lenV underlying140 I A2)<|Ab (FV.subI (i:=((G0.length:Nat):Int)) (j:=1) I I (by omega))<|Ag I<|Aa<|Av ?_
 have k1:=Bw F0 .hd
 obtain ⟨t4,J2,B2⟩:=am h
 refine BR (α:=(Lb Int) × Int × (Lb Int) × Vc × (Lb Vc)) (fun ⟨B0,b0,g0,y0,u0⟩=>[(0,v0_0),(1,v1_0),(7,(.slice (some ⟨c0,0,none⟩) (((a0.length:Nat):Int) - (((a1.length:Nat):Int) - 1)).toNat (((a0.length:Nat):Int) - (((a1.length:Nat):Int) - 1)).toNat)),(8,y0),(9,vI b0)]) (fun ⟨B0,b0,g0,y0,u0⟩=>[rr w 3 Int (.slice (some ⟨c0,0,none⟩) (((a0.length:Nat):Int) - (((a1.length:Nat):Int) - 1)).toNat (((a0.length:Nat):Int) - (((a1.length:Nat):Int) - 1)).toNat) g0.length u0]) (fun ⟨B0,b0,g0,y0,u0⟩ Z0=>Rep.R Z0 (bl [rr w 3 Int (.slice (some ⟨c0,0,none⟩) (((a0.length:Nat):Int) - (((a1.length:Nat):Int) - 1)).toNat (((a0.length:Nat):Int) - (((a1.length:Nat):Int) - 1)).toNat) g0.length u0] ++ L) [y0] B0/\Cells Z0 (bl [rr w 3 Int (.slice (some ⟨c0,0,none⟩) (((a0.length:Nat):Int) - (((a1.length:Nat):Int) - 1)).toNat (((a0.length:Nat):Int) - (((a1.length:Nat):Int) - 1)).toNat) g0.length u0] ++ L) u0 g0) (fun ⟨B0,b0,g0,y0,u0⟩=>(B0,b0,g0)) (G1,((G0.length:Nat):Int) - 1,G0,E1,(List.replicate (((a0.length:Nat):Int) - (((a1.length:Nat):Int) - 1)).toNat [vI 0]).flatten) J2 k1 ⟨(By (α:=Int) (v:=E1) (xs:=G1) k1 L (Bg (α:=Int) F0 .hd v2 hL)),(AO (AJ (cs:=(List.replicate (((a0.length:Nat):Int) - (((a1.length:Nat):Int) - 1)).toNat [vI 0]).flatten) (xs:=G0) j1 L (Cells.mk C1 I)) (Tt g2 (Tt j2 (Bx F0 .hd))))⟩ ?_
 rintro Q3 ⟨B0,b0,g0,y0,u0⟩ Z0 V1 H0 Z1 ⟨A1,u1⟩ h
 unfold aF_l2 at h
 try dsimp only at h
 refine Aj<|Ae<|Ac I<|Ab (FV.geq (i:=b0) (j:=0) I I)<|Aa<|AW I h (fun K1 h=>?_) (fun K1 h=>?_)
 refine Aq<|Aj<|Av<|Ae<|Ag I<|Aa<|Av ?_
 obtain ⟨u4,K2,C2⟩:=am h
 refine BR (α:=(Lb Int) × Int × (Lb Int) × Vc × (Lb Vc)) (fun ⟨C0,p0,j0,z0,q0⟩=>[(0,v0_0),(1,v1_0),(7,(.slice (some ⟨c0,0,none⟩) (((a0.length:Nat):Int) - (((a1.length:Nat):Int) - 1)).toNat (((a0.length:Nat):Int) - (((a1.length:Nat):Int) - 1)).toNat)),(8,z0),(9,vI b0),(10,vI p0)]) (fun ⟨C0,p0,j0,z0,q0⟩=>[rr w 3 Int (.slice (some ⟨c0,0,none⟩) (((a0.length:Nat):Int) - (((a1.length:Nat):Int) - 1)).toNat (((a0.length:Nat):Int) - (((a1.length:Nat):Int) - 1)).toNat) j0.length q0]) (fun ⟨C0,p0,j0,z0,q0⟩ b1=>Rep.R b1 (bl [rr w 3 Int (.slice (some ⟨c0,0,none⟩) (((a0.length:Nat):Int) - (((a1.length:Nat):Int) - 1)).toNat (((a0.length:Nat):Int) - (((a1.length:Nat):Int) - 1)).toNat) j0.length q0] ++ L) [z0] C0/\Cells b1 (bl [rr w 3 Int (.slice (some ⟨c0,0,none⟩) (((a0.length:Nat):Int) - (((a1.length:Nat):Int) - 1)).toNat (((a0.length:Nat):Int) - (((a1.length:Nat):Int) - 1)).toNat) j0.length q0] ++ L) q0 j0) (fun ⟨C0,p0,j0,z0,q0⟩=>(C0,p0,j0)) (B0,31,g0,y0,u0) K2 H0 ⟨A1,u1⟩ ?_
 rintro R3 ⟨C0,p0,j0,z0,q0⟩ b1 W1 I0 p1 ⟨B1,W0⟩ h
 unfold aF_l1 at h
 try dsimp only at h
 refine Aj<|Ae<|Ac I<|Ab (FV.geq (i:=p0) (j:=0) I I)<|Aa<|AW I h (fun M1 h=>?_) (fun M1 h=>?_)
 refine Aq<|Aj<|Av<|Ae<|Ac I<|Ac I<|Ac I<|bk h fun d1 d3 h=>?_
 obtain ⟨D2,g3⟩:=aU d3
 obtain ⟨M3,X3,x2,E2,Q1,M2,H2⟩:=Be (AG h0_0 I0) g3
 have y2:Q1 = [vI d1]:=M2; subst y2
 refine Ab (Bf 1 (b0.toNat) I x2 I D2 E2)<|Bd I (H2 0 _ I)<|Ac I<|bk h fun z3 F2 h=>Ab (FV.shrSI (i:=d1) (q:=p0) I I F2)<|bk h fun v4 X2 h=>Ab (FV.remc (i:=shrS d1 z3) (j:=2) I I X2)<|bk h fun J3 u3 h=>jE (bd 204) I (e2 I I) (fun w9 hw9=>bv_c n (I0.hL hL hw9) (Ah B1 hw9) u3) I fun D4 D3 k2 ⟨y4,hu_,Y0⟩=>?_
 subst hu_
 obtain ⟨x0,V0⟩:=I0.agr k2
 refine Ag I<|Aa<|Ae<|Ac I<|Ac I<|bk h fun H1 v3 h=>Bj (vI H1) (bd 175) I (e2 I I) (fun w9 hw9=>aR_c n (x0.hL0 hL hw9) (x0.kd Y0 hw9) (x0.k0 h1_0 hw9) v3) I<|Ab (FV.geq (i:=H1) (j:=0) I I)<|Aa<|MX.jf (α:=(Lb Int) × (Lb Int) × Vc × (Lb Vc)) (fun ⟨D0,t0,A0,v0⟩=>[(0,v0_0),(1,v1_0),(7,(.slice (some ⟨c0,0,none⟩) (((a0.length:Nat):Int) - (((a1.length:Nat):Int) - 1)).toNat (((a0.length:Nat):Int) - (((a1.length:Nat):Int) - 1)).toNat)),(8,A0),(9,vI b0),(10,vI p0)]) (fun ⟨D0,t0,A0,v0⟩=>[rr w 3 Int (.slice (some ⟨c0,0,none⟩) (((a0.length:Nat):Int) - (((a1.length:Nat):Int) - 1)).toNat (((a0.length:Nat):Int) - (((a1.length:Nat):Int) - 1)).toNat) t0.length v0]) (fun ⟨D0,t0,A0,v0⟩ c1=>Rep.R c1 (bl [rr w 3 Int (.slice (some ⟨c0,0,none⟩) (((a0.length:Nat):Int) - (((a1.length:Nat):Int) - 1)).toNat (((a0.length:Nat):Int) - (((a1.length:Nat):Int) - 1)).toNat) t0.length v0] ++ L) [A0] D0/\Cells c1 (bl [rr w 3 Int (.slice (some ⟨c0,0,none⟩) (((a0.length:Nat):Int) - (((a1.length:Nat):Int) - 1)).toNat (((a0.length:Nat):Int) - (((a1.length:Nat):Int) - 1)).toNat) t0.length v0] ++ L) v0 t0) (fun ⟨D0,t0,A0,v0⟩=>(D0,t0)) x0 h ?_ ?_
 rintro ⟨D0,t0,A0,v0⟩ c1 X1 b2 ⟨P2,s2⟩ h
 try dsimp only at h
 refine Aw<|Am<|Ac I<|bk h fun B3 Y2 h=>Ab (FV.subc (i:=p0) (j:=1) I I Y2)<|Ag I<|Aa<|W1 (D0,B3,t0,A0,v0) X1 (Tt p1 (Tt V0 b2)) ⟨P2,s2⟩ h
 intro U3 g1 h
 try dsimp only at h
 refine AW I h (fun P1 h=>?_) (fun P1 h=>?_)
 refine Ae<|Ac I<|Ac I<|bk h fun K3 x3 h=>jE (bd 176) I (e2 I I) (fun w9 hw9=>aq_c n (x0.hL hL hw9) (Ah Y0 hw9) (x0.km h1_0 hw9) x3) I fun E4 E3 p2 ⟨z4,hu_,Q2⟩=>?_
 subst hu_
 obtain ⟨P0,q1⟩:=x0.agr p2
 refine Ag I<|Aa<|du 10 fun d0 s0=>Rv 0 d0 I s0 (fun _=>Al I)<|Rv 1 d0 I s0 (fun _=>Al I)<|Rv 2 d0 I s0 (fun _=>Al I)<|Rv 3 d0 I s0 (fun _=>Al I)<|bk h fun F1 j3 h=>?_
 obtain ⟨x1,k3⟩:=aU j3
 have y1:=AO W0 (Tt V0 q1)
 obtain ⟨I1,Y3,K0,X0,R1,R2,I2⟩:=St.nth (α:=Int) P0 .hd y1 k3
 obtain ⟨J1,Z3,v1⟩:=BE (α:=Int) P0 .hd X0
 obtain rfl:I1 = ⟨J1,0,none⟩:=by rw [v1] at K0; cases K0; rfl
 have z2:R1 = [vI F1]:=R2; subst z2
 refine Rv 4 d0 I s0 (fun _=>Bf 1 (b0.toNat) I K0 I x1 X0)<|Rx 5 1792 d0 I s0 (Bn I (I2 0 _ I))<|Rv 6 d0 I s0 (fun _=>Al I)<|bk h fun A3 G2 h=>Rv 7 d0 I s0 (fun _=>FV.shlSI (i:=1) (q:=p0) I I G2)<|bk h fun x4 Z2 h=>Rv 8 d0 I s0 (fun _=>FV.addc (i:=F1) (j:=shlS 1 A3) I I Z2)<|Rv 9 d0 I s0 (fun _=>Bf 1 (b0.toNat) I K0 I x1 X0)<|bk h fun H3 q3 h=>BJ (i:=10) (rk d0) (RO.acts (m' :=2047) (sk d0) I I .plain (Acts.set (α:=Int) (i:=b0.toNat) q3 P0 v1 (fun _=>.hd) y1 I I I I I I) (fun F4 ⟨U1,Y1,s1,t2⟩=>?_))
 refine AN (dk d0)<|g1 (K3,H3,E3,U1) Y1 (Tt q1 s1) ⟨(Af Q2 s1),t2⟩ h
 refine Aq<|g1 (J3,j0,D3,q0) x0 (BO _ _) ⟨Y0,(AO W0 V0)⟩ h
 refine Ba I ?_
 have h:=C2 _ h
 try dsimp only at h
 refine Aw<|Am<|Ac I<|bk h fun C3 b3 h=>Ab (FV.subc (i:=b0) (j:=1) I I b3)<|Ag I<|Aa<|V1 (C0,C3,j0,z0,q0) I0 (Tt Z1 p1) ⟨B1,W0⟩ h
 refine Ba I ?_
 have h:=B2 _ h
 try dsimp only at h
 refine Ae<|Ac I ?_
 have Q0:=Bw H0 .hd
 have c2:=Bx H0 .hd
 refine bk h fun M4 y3 h=>jE (bd 181) I (e1 I) (fun w9 hw9=>aB_c n (Q0.hL hL hw9) (Ah (By (α:=Int) (v:=(.slice (some ⟨c0,0,none⟩) (((a0.length:Nat):Int) - (((a1.length:Nat):Int) - 1)).toNat (((a0.length:Nat):Int) - (((a1.length:Nat):Int) - 1)).toNat)) (xs:=g0) Q0 L (Bg (α:=Int) H0 .hd u1 hL)) hw9) y3) I fun G4 F3 q2 ⟨A4,hu_,U2⟩=>?_
 subst hu_
 obtain ⟨R0,d2⟩:=Q0.agr q2
 refine Ac I<|Ag I<|Ag I<|Aa<|Ar I<|Au hb0 func184 I (.cons (.tmp I) (.cons (.tmp I) .nil)) I ?_
 cases h
 exact ⟨R0.ag,fun w9 hw9=>⟨F3,y0,I,R0.kd U2 hw9,R0.kd (Af A1 (Tt c2 d2)) hw9⟩⟩
end Go.Proofs.YtkommhmbkbhmlaaGreat
