/- Plain law: the program's distance is the distance. No program in sight but the printed functions. -/
import Derived.Test.YtkommhmbkbhmlaaGreatVXAk
namespace Go.Proofs.YtkommhmbkbhmlaaGreat
open Go
set_option maxRecDepth 8000
def lE (q:Rat):Bool × Lb Ua × Bool × Lb Ua:=((Rt q).fj.fc,(Rt q).fj.fk,(Rt q).fh.fc,(Rt q).fh.fk)
theorem numpos2 {q:Rat} (h:0 < q.num):0 < q:=by
 refine (Rat.lt_iff _ _).2 ?_
 have e1:(0:Rat).num = 0:=rfl
 have e2:((0:Rat).den:Int) = 1:=rfl
 rw [e1,e2]
 omega
def bN (W:Lb (Rat × Rat)):Lb (Rat × Rat):=W.foldl (fun T e=>bf e.1 e.2 T) []
theorem cU (W:Lb (Rat × Rat)):Gat W (bN W)/\Up (bN W):=by
 suffices ∀ (l P D:Lb (Rat × Rat)),Gat P D -> Up D -> Gat (P ++ l) (l.foldl (fun T e=>bf e.1 e.2 T) D)/\Up (l.foldl (fun T e=>bf e.1 e.2 T) D) from this W [] [] Gat.nil List.Pairwise.nil
 intro l
 induction l with
 | nil=>intro P D h u; rw [List.append_nil]; exact ⟨h,u⟩
 | cons e l ih=>
  intro P D h u
  have:=ih (P ++ [e]) _ (h.put u e.1 e.2) (gL e.1 e.2 u)
  rwa [List.append_assoc] at this
structure Wd (N:Nat) (W:List (Rat × Rat)):Prop where
 pos:0 < N
 le:N <= 1000000
 key:∀ e ∈ W,Bt 40 40 e.1
 wts:∀ e ∈ W,∃ k,0 < k/\k <= N/\e.2 = un k N
 sum:sW W = 1
 len:W.length <= 400
set_option maxRecDepth 8000
theorem nQ (A:Lb (Rat × Rat)) (e:Rat × Rat):nO (A ++ [e]) = ku (nO A) e:=by
 unfold nO
 rw [List.foldl_append]; rfl
theorem gl {a b:Rat × Rat} (ha:FQ a.1/\FQ a.2) (hb:FQ b.1/\FQ b.2):ms a = ms b ↔ a = b:=by
 refine ⟨fun h=>?_,fun h=>by rw [h]⟩
 have h1:Sg a.1 = Sg b.1:=congrArg Ta.fm h
 have h2:Sg a.2 = Sg b.2:=congrArg Ta.fP h
 exact Prod.ext (kb ha.1 hb.1 h1) (kb ha.2 hb.2 h2)
set_option maxRecDepth 8000
theorem RF.mono {l m:Nat} {q:Rat} (h:RF l q) (hm:l <= m):RF m q:=⟨h.n.mono hm,h.d.mono hm⟩
theorem mT (a b:Rat):a + b = Rat.divInt (a.num * b.den + b.num * a.den) (a.den * b.den):=by
 conv=>lhs; rw [<- Rat.num_divInt_den a,<- Rat.num_divInt_den b]
 exact Rat.divInt_add_divInt _ _ FQ.ndnz FQ.ndnz
theorem mD (a b:Rat):a * b = Rat.divInt (a.num * b.num) (a.den * b.den):=by
 conv=>lhs; rw [<- Rat.num_divInt_den a,<- Rat.num_divInt_den b]
 exact Rat.divInt_mul_divInt _ _
theorem dd0 (a b:Rat):(a.den:Int) * b.den ≠ 0:=Int.mul_ne_zero FQ.ndnz FQ.ndnz
theorem od {l m:Nat} {a b:Rat} (ha:RF l a) (hb:RF m b):Fit (l + m + 1) (a.num * b.den + b.num * a.den)/\Fit (l + m + 1) ((a.den:Int) * b.den):=by
 have f1:=ha.n.mul hb.d
 have f2:=hb.n.mul ha.d
 rw [Nat.add_comm] at f2
 exact ⟨f1.add f2,(ha.d.mul hb.d).mono (by omega)⟩
theorem iH {l m:Nat} {a b:Rat} (ha:RF l a) (hb:RF m b) (h:l + m < 4000):ab_p FU (Rt a) (Rt b) = some (Rt (a + b))/\RF (l + m + 1) (a + b):=by
 have hF:=aA
 obtain ⟨f1,f2⟩:=od ha hb
 obtain ⟨e1,e2,e3⟩:=mL FU (l + m + 1) _ _ f1 f2 (dd0 a b) (by omega) hF
 have g2:=hb.n.mul ha.d
 rw [Nat.add_comm] at g2
 rw [<- mT] at e1 e2 e3
 refine ⟨?_,?_⟩
 ·unfold ab_p Rt
  rw [bK FU l m _ _ ha.n hb.d (by omega) (by omega),aa,bK FU m l _ _ hb.n ha.d (by omega) (by omega),aa,gN FU (l + m) _ _ (ha.n.mul hb.d) g2 (by omega) (by omega),aa,bK FU l m _ _ ha.d hb.d (by omega) (by omega),aa,e1]
  rfl
 ·rw [mT]; rw [mT] at e2 e3; exact RF.of f1 f2 e2 e3
theorem iB {l m:Nat} {a b:Rat} (ha:RF l a) (hb:RF m b) (h:l + m < 4000):av_p FU (Rt a) (Rt b) = some (Rt (a * b))/\RF (l + m) (a * b):=by
 have hF:=aA
 have f1:=ha.n.mul hb.n
 have f2:=ha.d.mul hb.d
 obtain ⟨e1,e2,e3⟩:=mL FU (l + m) _ _ f1 f2 (dd0 a b) (by omega) hF
 rw [<- mD] at e1 e2 e3
 refine ⟨?_,?_⟩
 ·unfold av_p Rt
  rw [bK FU l m _ _ ha.n hb.n (by omega) (by omega),aa,bK FU l m _ _ ha.d hb.d (by omega) (by omega),aa,e1]
  rfl
 ·rw [mD]; rw [mD] at e2 e3; exact RF.of f1 f2 e2 e3
theorem rcmpH {l m:Nat} {a b:Rat} (ha:RF l a) (hb:RF m b) (h:l + m < 4000):aK_p FU (Rt a) (Rt b) = some (sgn a b):=by
 have hF:=aA
 have g2:=hb.n.mul ha.d
 rw [Nat.add_comm] at g2
 unfold aK_p Rt
 rw [bK FU l m _ _ ha.n hb.d (by omega) (by omega),aa,bK FU m l _ _ hb.n ha.d (by omega) (by omega),aa]
 unfold cg_p
 rw [fT FU (l + m) _ _ (ha.n.mul hb.d) g2 (by omega) (by omega),aa,dH]
 rfl
theorem Fit.r {l:Nat} {z:Int} (h:Fit l z):FtR (2 * l) z:=by
 unfold FtR
 rw [kl]
 exact h
theorem fM {l m:Nat} {a b:Rat} (ha:RF l a) (hb:RF m b) (h:l + m < 4000):aS_p FU (RR a) (RR b) = some (RR (a + b)):=by
 have hF:=aA
 obtain ⟨f1,f2⟩:=od ha hb
 have x1:=ha.n.r.mul hb.d.r
 have x2:=hb.n.r.mul ha.d.r
 have x3:=ha.d.r.mul hb.d.r
 rw [Nat.add_comm] at x2
 have e:=(iN FU (2 * (l + m + 1)) _ _ (dd0 a b) f1.r f2.r (by omega) hF).1
 unfold aS_p RR
 simp only
 rw [aV FU _ _ _ _ ha.n.r hb.d.r (by omega) (by omega),aa,aV FU _ _ _ _ hb.n.r ha.d.r (by omega) (by omega),aa,iD FU _ _ _ x1 x2 (by omega) (by omega),aa,aV FU _ _ _ _ ha.d.r hb.d.r (by omega) (by omega),aa,e,aa,<- mT]
 rfl
theorem ji {l m:Nat} {a b:Rat} (ha:RF l a) (hb:RF m b) (h:l + m < 4000):bJ_p FU (RR a) (RR b) = some (RR (a * b)):=by
 have hF:=aA
 have e:=(iN FU (2 * (l + m)) _ _ (dd0 a b) (ha.n.mul hb.n).r (ha.d.mul hb.d).r (by omega) hF).1
 unfold bJ_p RR
 simp only
 rw [aV FU _ _ _ _ ha.n.r hb.n.r (by omega) (by omega),aa,aV FU _ _ _ _ ha.d.r hb.d.r (by omega) (by omega),aa,e,aa,<- mD]
 rfl
theorem ez {l m:Nat} {a b:Rat} (ha:RF l a) (hb:RF m b) (h:l + m < 4000):aV_p FU (RR a) (RR b) = some (sgn a b):=by
 have hF:=aA
 have x2:=hb.n.r.mul ha.d.r
 rw [Nat.add_comm] at x2
 unfold aV_p
 rw [show (RR a).fN = R8 a.num from I,show (RR a).fD = R8 (a.den:Int) from I,show (RR b).fN = R8 b.num from I,show (RR b).fD = R8 (b.den:Int) from I,
  aV FU _ _ _ _ ha.n.r hb.d.r (by omega) (by omega),aa,aV FU _ _ _ _ hb.n.r ha.d.r (by omega) (by omega),aa,
  mB _ _ _ (ha.n.r.mul hb.d.r) x2 (by omega),aa]
 rfl
open Classical in
theorem kD (q:Rat):ac_p FU (Rt q) = some (if FQ q then (Sg q,0) else (noS,6)):=rtoldG FU q (by have:=aA; omega)
open Classical in
theorem mJ {l:Nat} {q:Rat} (h:RF l q) (hl:l < 4000):br_p FU (RR q) = some (if FQ q then (Sg q,0) else (noS,6)):=di FU (2 * l) q h.n.r h.d.r (by omega) (by have:=aA; omega)
set_option maxRecDepth 8000
theorem oR (t:T8):∃ z,Fw z/\t = Wg z:=by
 have h1:=po t
 have h2:=eh
 by_cases h:val (wv t) < HB
 ·refine ⟨(val (wv t):Int),⟨by omega,by omega⟩,iK ?_⟩
  rw [Int.emod_eq_of_lt (by omega) (by omega)]
 ·refine ⟨(val (wv t):Int) - FB,⟨by omega,by omega⟩,iK ?_⟩
  rw [Int.sub_emod_right,Int.emod_eq_of_lt (by omega) (by omega)]
theorem gcd_fit {x y:Int} (hy:Fw y) (h0:0 < y):Fit 8 ((Nat.gcd x.natAbs y.natAbs:Nat):Int):=by
 refine Nat.lt_of_le_of_lt ?_ hy.fit
 rw [Int.natAbs_natCast]
 exact Nat.gcd_le_right _ (by omega)
theorem checkXY (x y:Int) (hx:Fw x) (hy:Fw y):bT_p FU ⟨Wg x,Wg y⟩ = some (if 0 < y/\Nat.gcd x.natAbs y.natAbs = 1 then 0 else 20):=by
 have hF:=aA
 have hr:al_p FU ⟨Wg x,Wg y⟩ = some ⟨L x,L y⟩:=by
  unfold al_p
  simp only
  rw [gE FU _ hx (by omega),aa,gE FU _ hy (by omega),aa]
 unfold bT_p
 rw [gQ FU 1 (by unfold Sm; decide) (by omega),aa,hr,aa]
 simp only
 rw [dH,aa]
 by_cases h0:0 < y
 ·rw [Int.sign_eq_one_of_pos h0,if_neg (by decide),jW FU 8 _ _ hx.fit hy.fit (by decide) hF,aa]
  unfold cg_p
  rw [fT FU 8 _ _ (gcd_fit hy h0) (by unfold Fit; decide) (by omega) (by decide),aa,dH,aa]
  by_cases hg:Nat.gcd x.natAbs y.natAbs = 1
  ·rw [aa,if_pos (show (((Nat.gcd x.natAbs y.natAbs:Nat):Int) - 1).sign = 0 from by rw [hg]; rfl),if_pos ⟨h0,hg⟩]
  ·have:(((Nat.gcd x.natAbs y.natAbs:Nat):Int) - 1).sign ≠ 0:=fun e=>by
    have:=Int.sign_eq_zero_iff_zero.1 e; omega
   rw [if_neg fun h=>hg h.2,aa,if_neg this]
 ·have hs:y.sign <= 0:=by
   rcases Int.lt_trichotomy y 0 with h | h | h
   ·rw [Int.sign_eq_neg_one_of_neg h]; decide
   ·rw [h]; decide
   ·omega
  rw [if_pos hs,if_neg fun h=>h0 h.1]
theorem bw (s:Tb):(∃ q,FQ q/\s = Sg q) ∨ (bT_p FU s = some 20/\aG_p FU s = some false):=by
 obtain ⟨a,b⟩:=s
 obtain ⟨x,hx,rfl⟩:=oR a
 obtain ⟨y,hy,rfl⟩:=oR b
 have c1:=checkXY x y hx hy
 have c2:=jh FU x y hx hy aA
 by_cases h:0 < y/\Nat.gcd x.natAbs y.natAbs = 1
 ·refine .inl ?_
  obtain ⟨m,rfl⟩:∃ m:Nat,y = (m:Int):=⟨y.toNat,by omega⟩
  have hn:(Rat.mk' x m (by omega) h.2).num = x:=rfl
  exact ⟨Rat.mk' x m (by omega) h.2,⟨hx,hy⟩,I⟩
 ·rw [if_neg h] at c1
  rw [decide_eq_false h] at c2
  exact .inr ⟨c1,c2⟩
structure Gd (T:List (Rat × Rat)):Prop where
 fq:∀ e ∈ T,FQ e.1/\FQ e.2
 pos:∀ e ∈ T,0 < e.2
 up:Up T
def fX (xs:Lb Ta):Prop:=∃ T:Lb (Rat × Rat),xs = T.map ms/\Gd T
def Okm (xs:Lb Ta):Prop:=∃ T:Lb (Rat × Rat),xs = T.map ms/\Gd T/\sW T = 1/\0 < T.length
theorem Gd.snoc {T:Lb (Rat × Rat)} {e:Rat × Rat} (h:Gd T) (fe:FQ e.1/\FQ e.2) (pe:0 < e.2) (hl:∀ x ∈ T,x.1 < e.1):Gd (T ++ [e]):=by
 refine ⟨fun x hx=>?_,fun x hx=>?_,?_⟩
 ·rcases List.mem_append.1 hx with hx | hx
  ·exact h.fq x hx
  ·rw [List.mem_singleton.1 hx]; exact fe
 ·rcases List.mem_append.1 hx with hx | hx
  ·exact h.pos x hx
  ·rw [List.mem_singleton.1 hx]; exact pe
 ·unfold Up
  rw [List.pairwise_append]
  refine ⟨h.up,List.pairwise_singleton ..,fun a ha b hb=>?_⟩
  rw [List.mem_singleton.1 hb]
  exact Rat.not_le.2 (hl a ha)
theorem mR {T:Lb (Rat × Rat)} (h:Up T) {i:Nat} (hi:i + 1 = T.length) {x:Rat} (hx:(T[i]'(by omega)).1 < x):∀ y ∈ T,y.1 < x:=fun y hy=>by
 obtain ⟨j,hj,rfl⟩:=List.getElem_of_mem hy
 by_cases c:j = i
 ·subst c; exact hx
 ·have:=pb h (show i < T.length by omega) (show j < i by omega)
  grind
theorem eL {q:Rat} (h:FQ q):bT_p FU (Sg q) = some 0:=checkG FU q h aA
theorem check2 (xs:Lb Ta) (hn:xs.length <= 400):(fX xs/\ao (aQ_l2 FU xs) FU 0 = some (.inr ())) ∨ (¬ fX xs/\ao (aQ_l2 FU xs) FU 0 = some (.inl 50)):=by
 have hF:=aA
 have hh:=au (B:=aQ_l2 FU xs) (fun i:Nat=>xs.length - i) (fun i=>i <= xs.length/\fX (xs.take i)) (fun r=>(fX xs/\r = .inr ()) ∨ (¬ fX xs/\r = .inl 50)) ?_ FU 0 ⟨Nat.zero_le _,[],rfl,⟨by simp,by simp,List.Pairwise.nil⟩⟩ (by omega)
 ·obtain ⟨r,e,h | h⟩:=hh
  ·exact .inl ⟨h.1,by rw [e,h.2]⟩
  ·exact .inr ⟨h.1,by rw [e,h.2]⟩
 ·rintro i J ⟨hi,hg⟩ hJ
  unfold aQ_l2 jn
  simp only
  by_cases c:i < xs.length
  ·have hat:∀ T:Lb (Rat × Rat),xs = T.map ms -> ∃ h:i < T.length,xs[i] = ms T[i]:=fun T e=>by
    have hl:i < T.length:=by rw [e,List.length_map] at c; exact c
    exact ⟨hl,by simp only [e,List.getElem_map]⟩
   have bad:¬ fX xs -> ∃ r,some (Sum.inl 50) = some r/\((fX xs/\r = .inr ()) ∨ (¬ fX xs/\r = (.inl 50:Int ⊕ Unit))):=fun h=>⟨_,I,.inr ⟨h,I⟩⟩
   rw [if_pos c,geE c,aa]
   rcases bw xs[i].fm with ⟨q,fq,eq⟩ | ⟨e1,_⟩
   ·rw [eq,eL fq,aa,if_pos I]
    rcases bw xs[i].fP with ⟨p,fp,ep⟩ | ⟨e1,_⟩
    ·have em:xs[i] = ms (q,p):=by
      rw [show xs[i] = ⟨xs[i].fm,xs[i].fP⟩ from I,eq,ep]; rfl
     have hT:∀ T:Lb (Rat × Rat),xs = T.map ms -> Gd T -> ∃ h:i < T.length,T[i] = (q,p):=fun T e g=>by
      obtain ⟨h,e2⟩:=hat T e
      rw [em] at e2
      exact ⟨h,((gl ⟨fq,fp⟩ (g.fq _ (List.getElem_mem h))).1 e2).symm⟩
     rw [ep,eL fp,aa,if_pos I,em,pG (e:=(q,p)) fp,aa,show (Rt (q,p).2).fj = Go.Proofs.YtkommhmbkbhmlaaGreat.L p.num from I,dH,aa]
     by_cases cp:0 < p
     ·rw [if_neg (by rw [Int.sign_eq_one_of_pos (numpos cp)]; decide)]
      have next:(∃ T:Lb (Rat × Rat),xs.take i = T.map ms/\Gd T/\∀ x ∈ T,x.1 < q) -> fX (xs.take (i + 1)):=fun ⟨T,e,g,hl⟩=>by
       refine ⟨T ++ [(q,p)],?_,g.snoc ⟨fq,fp⟩ cp hl⟩
       rw [List.take_succ_eq_append_getElem c,e,em,List.map_append]; rfl
      obtain ⟨T,e,g⟩:=hg
      have hlen:T.length = i:=by
       have:=congrArg List.length e
       rw [List.length_take,List.length_map] at this
       omega
      by_cases c0:0 < i
      ·have hi1:i - 1 < T.length:=by omega
       have e3:xs[i - 1]? = some (ms T[i - 1]):=by
        have h1:(xs.take i)[i - 1]? = xs[i - 1]?:=List.getElem?_take_of_lt (by omega)
        rw [<- h1,e,List.getElem?_map,geE hi1]; rfl
       have f1:=(g.fq _ (List.getElem_mem hi1)).1
       rw [if_pos c0,e3,aa,show (ms T[i - 1]).fm = Sg T[i - 1].1 from I,cg FU _ f1 (by omega),aa,cg FU _ fq (by omega),aa,rcmpG f1 fq,aa]
       by_cases cl:T[i - 1].1 < q
       ·have hs:=fy.2 cl
        rw [if_neg (by rw [decide_eq_true_iff]; omega)]
        exact hJ (i + 1) ⟨c,next ⟨T,e,g,mR g.up (show i - 1 + 1 = T.length by omega) cl⟩⟩ (by omega)
       ·rw [if_pos (by rw [decide_eq_true_iff]; exact Int.not_lt.1 fun hc=>cl (fy.1 hc))]
        refine bad fun ⟨U,eU,gU⟩=>cl ?_
        obtain ⟨h,e4⟩:=hT U eU gU
        have hu:=pb gU.up h (show i - 1 < i by omega)
        have e5:U[i - 1]'(by omega) = T[i - 1]:=by
         have h1:xs[i - 1]? = some (ms (U[i - 1]'(by omega))):=by
          rw [eU,List.getElem?_map,geE (by omega)]; rfl
         rw [e3] at h1
         injection h1 with h1
         exact ((gl (g.fq _ (List.getElem_mem hi1)) (gU.fq _ (List.getElem_mem _))).1 h1).symm
        rw [e5,e4] at hu
        exact hu
      ·rw [if_neg c0,if_neg (by decide)]
       refine hJ (i + 1) ⟨c,next ⟨T,e,g,fun x hx=>?_⟩⟩ (by omega)
       rw [List.eq_nil_of_length_eq_zero (show T.length = 0 by omega)] at hx
       cases hx
     ·have hs:p.num.sign <= 0:=by
       rcases Int.lt_trichotomy p.num 0 with h | h | h
       ·rw [Int.sign_eq_neg_one_of_neg h]; decide
       ·rw [h]; decide
       ·exact absurd (numpos2 h) cp
      rw [if_pos hs,if_pos trivial]
      refine bad fun ⟨U,eU,gU⟩=>cp ?_
      obtain ⟨h,e4⟩:=hT U eU gU
      have:=gU.pos _ (List.getElem_mem h)
      rwa [e4] at this
    ·rw [e1,aa,if_neg (by decide),if_pos trivial]
     refine bad fun ⟨U,eU,gU⟩=>?_
     obtain ⟨h,e4⟩:=hat U eU
     rw [e4,show (ms U[i]).fP = Sg U[i].2 from I,eL (gU.fq _ (List.getElem_mem h)).2] at e1
     cases e1
   ·rw [e1,aa,if_neg (by decide),if_pos trivial]
    refine bad fun ⟨U,eU,gU⟩=>?_
    obtain ⟨h,e4⟩:=hat U eU
    rw [e4,show (ms U[i]).fm = Sg U[i].1 from I,eL (gU.fq _ (List.getElem_mem h)).1] at e1
    cases e1
  ·rw [if_neg c]
   refine ⟨_,I,.inl ⟨?_,I⟩⟩
   rwa [List.take_of_length_le (by omega)] at hg
set_option maxRecDepth 8000
theorem gY {T:Lb (Rat × Rat)} (h:∀ e ∈ T,FQ e.1/\FQ e.2) (hn:T.length <= 60):∀ i,i <= T.length -> RF (9 * i + 8) (sW (T.take i))
 | 0,_=>FQ0.rf
 | i + 1,hi=>by
  have ih:=gY h hn i (by omega)
  have hp:=(iH ih (h _ (List.getElem_mem (show i < T.length by omega))).2.rf (by omega)).2
  rw [nc (by omega)]
  exact hp.mono (by omega)
theorem check1 {T:Lb (Rat × Rat)} (h:∀ e ∈ T,FQ e.1/\FQ e.2) (hn:T.length <= 60):ao (aQ_l1 FU (T.map ms)) FU (0,lE 0) = some (lE (sW T)):=by
 have hF:=aA
 have hh:=au (B:=aQ_l1 FU (T.map ms)) (fun s=>T.length - s.1) (fun s=>∃ i,i <= T.length/\s = (i,lE (sW (T.take i)))) (fun r=>r = lE (sW T)) ?_ FU (0,lE 0) ⟨0,Nat.zero_le _,rfl⟩ (by simp only; omega)
 ·obtain ⟨r,e,rfl⟩:=hh
  exact e
 ·rintro s J ⟨i,hi,rfl⟩ hJ
  unfold aQ_l1 lE
  simp only
  by_cases c:i < T.length
  ·have f:=h _ (List.getElem_mem c)
   rw [if_pos (by simpa using c),geE (by simpa using c),aa,List.getElem_map,pG f.2,aa]
   rw [show (⟨⟨(Rt (sW (T.take i))).fj.fc,(Rt (sW (T.take i))).fj.fk⟩,⟨(Rt (sW (T.take i))).fh.fc,(Rt (sW (T.take i))).fh.fk⟩⟩:Td) = Rt (sW (T.take i)) from I,(iH (gY h hn i hi) f.2.rf (by omega)).1,aa,<- nc c]
   exact hJ _ ⟨i + 1,c,rfl⟩ (by simp only; omega)
  ·rw [if_neg (by simpa using c)]
   refine ⟨_,I,?_⟩
   rw [List.take_of_length_le (by omega)]
open Classical in
theorem kK (xs:Lb Ta) (hn:xs.length <= 60):aQ_p FU xs = some (if Okm xs then 0 else 50):=by
 have hF:=aA
 unfold aQ_p
 by_cases h0:xs.length < 1
 ·rw [if_pos h0,if_neg]
  rintro ⟨T,rfl,_,_,hT⟩
  rw [List.length_map] at h0
  omega
 ·rw [if_neg h0,if_neg (by omega)]
  rcases check2 xs (by omega) with ⟨⟨T,rfl,g⟩,e⟩ | ⟨hb,e⟩
  ·rw [List.length_map] at hn h0
   have hs:=gY g.fq hn T.length (Nat.le_refl _)
   rw [List.take_length] at hs
   rw [e]
   show ((aI_p FU 0).bind fun y303=>Option.bind (ao (aQ_l1 FU (T.map ms)) FU (0,y303.fj.fc,y303.fj.fk,y303.fh.fc,y303.fh.fk)) _) = _
   rw [from0,aa]
   show Option.bind (ao (aQ_l1 FU (T.map ms)) FU (0,lE 0)) _ = _
   rw [check1 g.fq hn,aa]
   show ((aI_p FU 1).bind fun y506=>(aK_p FU (Rt (sW T)) y506).bind fun y516=>if y516 = 0 then some 0 else some 50) = _
   rw [from1,aa,rcmpH hs FQ1.rf (by omega),aa]
   by_cases c:sW T = 1
   ·rw [if_pos (bW.2 c),if_pos ⟨T,rfl,g,c,by omega⟩]
   ·rw [if_neg fun hc=>c (bW.1 hc),if_neg]
    rintro ⟨U,eU,gU,hU,_⟩
    have:T = U:=by
     have hl:=congrArg List.length eU
     rw [List.length_map,List.length_map] at hl
     refine List.ext_getElem hl fun i h1 h2=>?_
     have h3:(T.map ms)[i]? = (U.map ms)[i]?:=by rw [eU]
     rw [List.getElem?_map,List.getElem?_map,geE h1,geE h2] at h3
     injection h3 with h3
     exact (gl (g.fq _ (List.getElem_mem h1)) (gU.fq _ (List.getElem_mem h2))).1 h3
    rw [this] at c
    exact c hU
  ·rw [e,if_neg fun ⟨T,e1,g,_⟩=>hb ⟨T,e1,g⟩]
   rfl
set_option maxRecDepth 8000
def fR (q:Rat):Bool × Lb Int × Bool × Lb Int:=((RR q).fN.fc,(RR q).fN.fD,(RR q).fD.fc,(RR q).fD.fD)
theorem zeroR:bQ_p FU = some (RR 0):=by
 unfold bQ_p
 rw [jU (by unfold Sm; decide) (by unfold Sm; decide) (by decide),aa]; rfl
theorem oneR:ct_p FU = some (RR 1):=by
 unfold ct_p
 rw [jU (by unfold Sm; decide) (by unfold Sm; decide) (by decide),aa]; rfl
theorem gq {q:Rat} (h:FQ q):aG_p FU (Sg q) = some true:=gw FU q h aA
theorem inS {q:Rat} (h:FQ q):aL_p FU (Sg q) = some (RR q):=ld FU q h (by have:=aA; omega)
theorem right1 (xs:Lb Ta) (hn:xs.length <= 60):(∃ T:Lb (Rat × Rat),xs = T.map ms/\Gd T/\ao (aw_l1 FU xs) FU (0,fR 0) = some (.inr (fR (sW T)))) ∨ (¬ fX xs/\ao (aw_l1 FU xs) FU (0,fR 0) = some (.inl false)):=by
 have hF:=aA
 have hh:=au (B:=aw_l1 FU xs) (fun s=>xs.length - s.1) (fun s=>s.1 <= xs.length/\∃ T:Lb (Rat × Rat),xs.take s.1 = T.map ms/\Gd T/\s.2 = fR (sW T)) (fun r=>(∃ T:Lb (Rat × Rat),xs = T.map ms/\Gd T/\r = .inr (fR (sW T))) ∨ (¬ fX xs/\r = .inl false)) ?_ FU (0,fR 0) ⟨Nat.zero_le _,[],rfl,⟨by simp,by simp,List.Pairwise.nil⟩,rfl⟩ (by simp only; omega)
 ·obtain ⟨r,e,⟨T,h1,h2,h3⟩ | h⟩:=hh
  ·exact .inl ⟨T,h1,h2,by rw [e,h3]⟩
  ·exact .inr ⟨h.1,by rw [e,h.2]⟩
 ·rintro ⟨i,s⟩ J ⟨hi,T,e,g,hs⟩ hJ
  simp only at hi e hs hJ
  subst hs
  unfold aw_l1 fR
  simp only
  by_cases c:i < xs.length
  ·have hat:∀ U:Lb (Rat × Rat),xs = U.map ms -> ∃ h:i < U.length,xs[i] = ms U[i]:=fun U eU=>by
    have hl:i < U.length:=by rw [eU,List.length_map] at c; exact c
    exact ⟨hl,by simp only [eU,List.getElem_map]⟩
   have bad:¬ fX xs -> ∃ r,some (Sum.inl false) = some r/\((∃ T:Lb (Rat × Rat),xs = T.map ms/\Gd T/\r = .inr (fR (sW T))) ∨ (¬ fX xs/\r = (.inl false:Bool ⊕ (Bool × Lb Int × Bool × Lb Int)))):=fun h=>⟨_,I,.inr ⟨h,I⟩⟩
   have hlen:T.length = i:=by
    have:=congrArg List.length e
    rw [List.length_take,List.length_map] at this
    omega
   rw [if_pos c,geE c,aa]
   rcases bw xs[i].fm with ⟨q,fq,eq⟩ | ⟨e0,e1⟩
   ·rw [eq,gq fq,aa,if_pos I]
    rcases bw xs[i].fP with ⟨p,fp,ep⟩ | ⟨e0,e1⟩
    ·have em:xs[i] = ms (q,p):=by
      rw [show xs[i] = ⟨xs[i].fm,xs[i].fP⟩ from I,eq,ep]; rfl
     have hT:∀ U:Lb (Rat × Rat),xs = U.map ms -> Gd U -> ∃ h:i < U.length,U[i] = (q,p):=fun U eU g=>by
      obtain ⟨h,e2⟩:=hat U eU
      rw [em] at e2
      exact ⟨h,((gl ⟨fq,fp⟩ (g.fq _ (List.getElem_mem h))).1 e2).symm⟩
     rw [ep,gq fp,aa,if_pos I,inS fp,aa,zeroR,aa,ez fp.rf FQ0.rf (by omega),aa]
     by_cases cp:0 < p
     ·rw [if_neg (by have:=eF.2 cp; omega)]
      have next:(∀ x ∈ T,x.1 < q) -> ∃ U:Lb (Rat × Rat),xs.take (i + 1) = U.map ms/\Gd U/\fR (sW T + p) = fR (sW U):=fun hl=>by
       refine ⟨T ++ [(q,p)],?_,g.snoc ⟨fq,fp⟩ cp hl,?_⟩
       ·rw [List.take_succ_eq_append_getElem c,e,em,List.map_append]; rfl
       ·rw [lR,show sW [(q,p)] = p + 0 from I,Rat.add_zero]
      have hr:=gY g.fq (by omega) T.length (Nat.le_refl _)
      rw [List.take_length] at hr
      have hp:=fM hr fp.rf (by omega)
      by_cases c0:0 < i
      ·have hi1:i - 1 < T.length:=by omega
       have e3:xs[i - 1]? = some (ms T[i - 1]):=by
        have h1:(xs.take i)[i - 1]? = xs[i - 1]?:=List.getElem?_take_of_lt (by omega)
        rw [<- h1,e,List.getElem?_map,geE hi1]; rfl
       have f1:=(g.fq _ (List.getElem_mem hi1)).1
       rw [if_pos c0,e3,aa,show (ms T[i - 1]).fm = Sg T[i - 1].1 from I,inS f1,aa,inS fq,aa,ez f1.rf fq.rf (by omega),aa]
       by_cases cl:T[i - 1].1 < q
       ·have hs:=fy.2 cl
        rw [if_neg (by omega)]
        rw [show (⟨⟨(RR (sW T)).fN.fc,(RR (sW T)).fN.fD⟩,⟨(RR (sW T)).fD.fc,(RR (sW T)).fD.fD⟩⟩:Tg) = RR (sW T) from I,hp,aa]
        exact hJ (i + 1,fR (sW T + p)) ⟨c,next (mR g.up (show i - 1 + 1 = T.length by omega) cl)⟩ (by simp only; omega)
       ·rw [if_pos (Int.not_lt.1 fun hc=>cl (fy.1 hc))]
        refine bad fun ⟨U,eU,gU⟩=>cl ?_
        obtain ⟨h,e4⟩:=hT U eU gU
        have hu:=pb gU.up h (show i - 1 < i by omega)
        have e5:U[i - 1]'(by omega) = T[i - 1]:=by
         have h1:xs[i - 1]? = some (ms (U[i - 1]'(by omega))):=by
          rw [eU,List.getElem?_map,geE (by omega)]; rfl
         rw [e3] at h1
         injection h1 with h1
         exact ((gl (g.fq _ (List.getElem_mem hi1)) (gU.fq _ (List.getElem_mem _))).1 h1).symm
        rw [e5,e4] at hu
        exact hu
      ·rw [if_neg c0]
       rw [show (⟨⟨(RR (sW T)).fN.fc,(RR (sW T)).fN.fD⟩,⟨(RR (sW T)).fD.fc,(RR (sW T)).fD.fD⟩⟩:Tg) = RR (sW T) from I,hp,aa]
       refine hJ (i + 1,fR (sW T + p)) ⟨c,next fun x hx=>?_⟩ (by simp only; omega)
       rw [List.eq_nil_of_length_eq_zero (show T.length = 0 by omega)] at hx
       cases hx
     ·rw [if_pos (Int.not_lt.1 fun hc=>cp (eF.1 hc))]
      refine bad fun ⟨U,eU,gU⟩=>cp ?_
      obtain ⟨h,e4⟩:=hT U eU gU
      have:=gU.pos _ (List.getElem_mem h)
      rwa [e4] at this
    ·rw [e1,aa,if_neg (by decide)]
     refine bad fun ⟨U,eU,gU⟩=>?_
     obtain ⟨h,e4⟩:=hat U eU
     rw [e4,show (ms U[i]).fP = Sg U[i].2 from I,gq (gU.fq _ (List.getElem_mem h)).2] at e1
     cases e1
   ·rw [e1,aa,if_neg (by decide)]
    refine bad fun ⟨U,eU,gU⟩=>?_
    obtain ⟨h,e4⟩:=hat U eU
    rw [e4,show (ms U[i]).fm = Sg U[i].1 from I,gq (gU.fq _ (List.getElem_mem h)).1] at e1
    cases e1
  ·rw [if_neg c]
   refine ⟨_,I,.inl ⟨T,?_,g,I⟩⟩
   rwa [List.take_of_length_le (by omega)] at e
theorem map_ms {T U:Lb (Rat × Rat)} (hT:∀ e ∈ T,FQ e.1/\FQ e.2) (hU:∀ e ∈ U,FQ e.1/\FQ e.2) (e:T.map ms = U.map ms):T = U:=by
 have hl:=congrArg List.length e
 rw [List.length_map,List.length_map] at hl
 refine List.ext_getElem hl fun i h1 h2=>?_
 have h3:(T.map ms)[i]? = (U.map ms)[i]?:=by rw [e]
 rw [List.getElem?_map,List.getElem?_map,geE h1,geE h2] at h3
 injection h3 with h3
 exact (gl (hT _ (List.getElem_mem h1)) (hU _ (List.getElem_mem h2))).1 h3
theorem thnr {α β:Type} {K:β -> Oa α} {x:β}:thn (some (Sum.inr x)) K = K x:=rfl
open Classical in
theorem eV (xs:Lb Ta) (hn:xs.length <= 60):aw_p FU xs = some (decide (Okm xs)):=by
 have hF:=aA
 unfold aw_p
 by_cases h0:xs.length < 1
 ·rw [if_pos h0,decide_eq_false]
  rintro ⟨T,rfl,_,_,hT⟩
  rw [List.length_map] at h0
  omega
 ·rw [if_neg h0,if_neg (by omega),zeroR,aa]
  show thn (ao (aw_l1 FU xs) FU (0,fR 0)) _ = _
  rcases right1 xs hn with ⟨T,e1,g,e⟩ | ⟨hb,e⟩
  ·subst e1
   rw [List.length_map] at hn h0
   have hs:=gY g.fq hn T.length (Nat.le_refl _)
   rw [List.take_length] at hs
   rw [e,thnr]
   unfold fR
   dsimp only
   rw [show (⟨⟨(RR (sW T)).fN.fc,(RR (sW T)).fN.fD⟩,⟨(RR (sW T)).fD.fc,(RR (sW T)).fD.fD⟩⟩:Tg) = RR (sW T) from I]
   rw [oneR,aa,ez hs FQ1.rf (by omega),aa]
   congr 1
   refine decide_eq_decide.2 ⟨fun h=>⟨T,rfl,g,bW.1 h,by omega⟩,fun ⟨U,eU,gU,hU,_⟩=>?_⟩
   rw [map_ms g.fq gU.fq eU]
   exact bW.2 hU
  ·rw [e,decide_eq_false fun ⟨T,e1,g,_⟩=>hb ⟨T,e1,g⟩]
   rfl
set_option maxRecDepth 8000
theorem ix {σ R:Type} (l:Lb σ) (P:σ -> Prop) (v:R) (B:(Nat -> Oa (R ⊕ Unit)) -> Nat -> Oa (R ⊕ Unit)) (hl:l.length < 1000)
  (h0:∀ J i,¬ i < l.length -> B J i = some (.inr ())) (h1:∀ J i (c:i < l.length),P l[i] -> B J i = J (i + 1)) (h2:∀ J i (c:i < l.length),¬ P l[i] -> B J i = some (.inl v)) :
  ((∀ s ∈ l,P s)/\ao B FU 0 = some (.inr ())) ∨ (¬ (∀ s ∈ l,P s)/\ao B FU 0 = some (.inl v)):=by
 have hF:=aA
 have hh:=au (B:=B) (fun i:Nat=>l.length - i) (fun i=>i <= l.length/\∀ s ∈ l.take i,P s) (fun r=>((∀ s ∈ l,P s)/\r = .inr ()) ∨ (¬ (∀ s ∈ l,P s)/\r = .inl v)) ?_ FU 0 ⟨Nat.zero_le _,fun s hs=>by cases hs⟩ (by omega)
 ·obtain ⟨r,e,h | h⟩:=hh
  ·exact .inl ⟨h.1,by rw [e,h.2]⟩
  ·exact .inr ⟨h.1,by rw [e,h.2]⟩
 ·rintro i J ⟨hi,hp⟩ hJ
  by_cases c:i < l.length
  ·by_cases hq:P l[i]
   ·rw [h1 J i c hq]
    refine hJ (i + 1) ⟨c,fun s hs=>?_⟩ (by omega)
    rw [List.take_succ_eq_append_getElem c] at hs
    rcases List.mem_append.1 hs with hs | hs
    ·exact hp s hs
    ·rw [List.mem_singleton.1 hs]; exact hq
   ·rw [h2 J i c hq]
    exact ⟨_,I,.inr ⟨fun hc=>hq (hc _ (List.getElem_mem c)),I⟩⟩
  ·rw [h0 J i c]
   refine ⟨_,I,.inl ⟨?_,I⟩⟩
   rwa [List.take_of_length_le (by omega)] at hp
theorem gW (xs:Lb Ta) (h:xs.length < 1000):aa_p FU xs xs = some true:=by
 unfold aa_p
 rw [if_pos I]
 rcases ix xs (fun _=>True) false (aa_l1 FU xs xs) h (fun J i c=>by unfold aa_l1; exact if_neg c)
  (fun J i c _=>by unfold aa_l1; simp only; rw [if_pos c,geE c,aa,aa,if_pos rfl]) (fun J i c hc=>absurd trivial hc) with ⟨_,e⟩ | ⟨hc,_⟩
 ·rw [e]; rfl
 ·exact absurd (fun _ _=>trivial) hc
def Oks (X:Lb (Lb Ta)):Prop:=∀ x ∈ X,Okm x
def Shs (w:Lb Tb):Prop:=∀ s ∈ w,∃ q,FQ q/\s = Sg q
theorem ny {s:Tb} (h:¬ ∃ q,FQ q/\s = Sg q):bT_p FU s = some 20/\aG_p FU s = some false:=(bw s).resolve_left h
theorem nq (w:Lb Tb) (hw:w.length <= 40):(Shs w/\ao (au_l2 FU w) FU 0 = some (.inr ())) ∨ (¬ Shs w/\ao (au_l2 FU w) FU 0 = some (.inl 20)):=by
 refine ix w (fun s=>∃ q,FQ q/\s = Sg q) 20 _ (by omega) (fun J i c=>?_) (fun J i c=>?_) fun J i c h=>?_
 ·unfold au_l2
  exact if_neg c
 ·rintro ⟨q,fq,e⟩
  unfold au_l2 cq_p
  simp only
  rw [if_pos c,geE c,aa,e,eL fq]
  rfl
 ·unfold au_l2 cq_p
  simp only
  rw [if_pos c,geE c,aa,(ny h).1,aa,aa,if_pos (by decide),if_pos (by omega)]
  rfl
open Classical in
theorem iW (X:Lb (Lb Ta)) (w:Lb Tb) (hX:X.length <= 40) (hx:∀ x ∈ X,x.length <= 60) (hw:w.length <= 40):au_p FU X w = some (if Oks X then if Shs w then 0 else 20 else 50):=by
 unfold au_p
 rcases ix X (fun x=>Okm x) 50 (au_l3 FU X w) (by omega) (fun J i c=>by unfold au_l3; exact if_neg c)
  (fun J i c h=>by
   unfold au_l3 cK_p
   simp only
   rw [if_pos c,geE c,aa,kK _ (hx _ (List.getElem_mem c)),if_pos h]
   rfl)
  (fun J i c h=>by
   unfold au_l3 cK_p
   simp only
   rw [if_pos c,geE c,aa,kK _ (hx _ (List.getElem_mem c)),if_neg h,aa,aa,if_pos (by decide),if_pos (by omega)]
   rfl) with ⟨h,e⟩ | ⟨h,e⟩
 ·rw [e,if_pos (show Oks X from h)]
  show (if (0:Int) <= -1 then some (50:Int) else _) = _
  rw [if_neg (by decide)]
  rcases nq w hw with ⟨k,e2⟩ | ⟨k,e2⟩
  ·rw [e2,if_pos k]; rfl
  ·rw [e2,if_neg k]; rfl
 ·rw [e,if_neg (show ¬ Oks X from h)]; rfl
set_option maxRecDepth 8000
theorem wt_rf {m:Nat} (x:Rat):∀ {W:Lb (Rat × Rat)},(∀ e ∈ W,RF m e.2) -> (m + 1) * W.length + m + 8 < 4000 -> RF ((m + 1) * W.length + 8) (wt x W)
 | [],_,_=>FQ0.rf
 | e :: l,h,hl=>by
  have e1:(m + 1) * (l.length + 1) = (m + 1) * l.length + (m + 1):=Nat.mul_succ ..
  rw [leC,e1] at hl ⊢
  have ih:=wt_rf x (W:=l) (fun d hd=>h d (List.mem_cons_of_mem _ hd)) (by omega)
  show RF _ ((if e.1 = x then e.2 else 0) + wt x l)
  split
  ·exact (iH (h e (List.mem_cons_self ..)) ih (by omega)).2.mono (by omega)
  ·rw [Rat.zero_add]
   exact ih.mono (by omega)
structure Wh (k m b:Nat) (W:List (Rat × Rat)):Prop where
 key:∀ e ∈ W,RF k e.1
 wts:∀ e ∈ W,RF m e.2
 bnd:(m + 1) * W.length + 8 <= b
 lim:m + b < 4000
 len:W.length <= 100
theorem Wh.gat {k m b:Nat} {W A B D:Lb (Rat × Rat)} (h:Wh k m b W) (e:W = A ++ B) (g:Gat A D):∀ d ∈ D,RF k d.1/\RF b d.2:=fun d hd=>by
 obtain ⟨h1,h2⟩:=(g.mem d).1 hd
 have hl:(m + 1) * A.length <= (m + 1) * W.length:=Nat.mul_le_mul_left _ (by rw [e,List.length_append]; omega)
 have h3:=h.bnd
 have h4:=h.lim
 refine ⟨?_,?_⟩
 ·obtain ⟨a,ha,e1⟩:=List.mem_map.1 h1
  rw [<- e1]
  exact h.key a (by rw [e]; exact List.mem_append_left _ ha)
 ·rw [h2]
  exact (wt_rf d.1 (fun a ha=>h.wts a (by rw [e]; exact List.mem_append_left _ ha)) (by omega)).mono (by omega)
theorem Gat.fq {A D:Lb (Rat × Rat)} (g:Gat A D) (h:∀ e ∈ A,FQ e.1):∀ d ∈ D,FQ d.1:=fun d hd=>by
 obtain ⟨h1,_⟩:=(g.mem d).1 hd
 obtain ⟨a,ha,e1⟩:=List.mem_map.1 h1
 rw [<- e1]
 exact h a ha
theorem pcaseH {β:Type} {D:Lb (Rat × Rat)} {x p:Rat} {m b:Nat} (hx:FQ x) (hp:RF m p) (h1:∀ e ∈ D,FQ e.1) (hD:∀ e ∈ D,RF b e.2) (hl:m + b < 4000) (J:Lb (Tb × Td) -> Oa β) :
  dI (br (D.map mk2) (Sg x)) (J (aC (D.map mk2) (Sg x) (Rt p))) (fun y=>(ab_p FU (Rt p) y).bind fun z=>J (aC (D.map mk2) (Sg x) z)) = J ((ku D (x,p)).map mk2):=by
 rw [nb hx h1]
 unfold ku
 simp only
 cases hm:br D x with
 | none=>
  show J _ = _
  rw [ka hx _ h1]
 | some o=>
  show ((ab_p FU (Rt p) (Rt o)).bind fun z=>J (aC (D.map mk2) (Sg x) z)) = _
  rw [(iH hp (hD _ (ii hm)) hl).1,aa,ka hx _ h1]
open Classical in
theorem gatherH {X:Lb Ta × Bool -> Oa (Lb Ta × Int)} {B:Tb × Td -> (Lb Ta × Bool -> Oa (Lb Ta × Int)) -> Lb Ta × Bool -> Oa (Lb Ta × Int)}
  (hX:∀ xs q,X (xs,q) = if q = true then some (([]:Lb Ta),(6:Int)) else ((bq_p FU (ac ((xs.length:Nat):Int))).bind fun y=>(dK (fun x9 y9=>ah_p FU x9 y9) y xs).bind fun z=>some (z,(0:Int))))
  (hB:∀ e J xs q,B e J (xs,q) = ((ac_p FU e.2).bind fun y861=>jn (fun q876=>(app xs ([(⟨e.1,y861.1⟩:Ta)]:Lb Ta)).bind fun xs888=>J (xs888,q876)) (fun J880=>(if y861.2 = 0 then J880 q else J880 true))))
  {D U:Lb (Rat × Rat)} (q0:Bool) (hf:∀ e ∈ D,FQ e.1) (hn:(D.map (·.1)).Nodup) (hu:Up U) (hp:U.Perm D) (hl:D.length < 420) :
  mloop X B FU (D.map mk2) ([],q0) = some (if q0 = false/\∀ e ∈ D,FQ e.2 then (U.map ms,0) else ([],6)):=by
 have hF:=aA
 let cv:Tb × Td -> Ta:=fun e=>⟨e.1,((ac_p FU e.2).getD (noS,0)).1⟩
 let bd:Tb × Td -> Bool:=fun e=>decide (((ac_p FU e.2).getD (noS,0)).2 ≠ 0)
 have hcv:∀ e:Rat × Rat,FQ e.2 -> cv (mk2 e) = ms e:=fun e he=>by
  show (⟨Sg e.1,((ac_p FU (Rt e.2)).getD (noS,0)).1⟩:Ta) = _
  rw [kD,if_pos he]; rfl
 have hbd:∀ e:Rat × Rat,bd (mk2 e) = decide (¬ FQ e.2):=fun e=>by
  show decide (((ac_p FU (Rt e.2)).getD (noS,0)).2 ≠ 0) = _
  rw [kD]
  by_cases c:FQ e.2
  ·rw [if_pos c,decide_eq_false (not_not_intro c)]; rfl
  ·rw [if_neg c,decide_eq_true c]; rfl
 refine ie (D:=D.map mk2) (fun s e=>(s.1 ++ [cv e],s.2 || bd e)) (fun k s=>s.1.length + k <= 1000) _ ?_ FU (D.map mk2) ([],q0) (by rw [List.length_map]; omega) (fun e he=>he) (by rw [List.length_map]; show 0 + _ <= _; omega) fun l' hl' =>?_
 ·rintro k e J ⟨xs,q⟩ h2 he
  simp only at h2
  obtain ⟨d,hd,rfl⟩:=List.mem_map.1 he
  refine ⟨?_,by simp only [List.length_append,leC,leN]; omega⟩
  have e1:ac_p FU (mk2 d).2 = some ((cv (mk2 d)).fP,if FQ d.2 then 0 else 6):=by
   show ac_p FU (Rt d.2) = some (((ac_p FU (Rt d.2)).getD (noS,0)).1,_)
   rw [kD]
   by_cases c:FQ d.2
   ·rw [if_pos c,if_pos c]; rfl
   ·rw [if_neg c,if_neg c]; rfl
  rw [hB,e1,aa]
  have e2:∀ q', (app xs ([(⟨(mk2 d).1,(cv (mk2 d)).fP⟩:Ta)]:Lb Ta)).bind (fun xs888=>J (xs888,q')) = J (xs ++ [cv (mk2 d)],q'):=fun q' =>by
   rw [bp _ _ (by simp only [leC,leN]; omega),aa]
  unfold jn
  simp only
  by_cases c:FQ d.2
  ·rw [if_pos (by rw [if_pos c]),e2,hbd,decide_eq_false (not_not_intro c),Bool.or_false]
  ·rw [if_neg (by rw [if_neg c]; decide),e2,hbd,decide_eq_true c,Bool.or_true]
 ·have hfold:∀ (l:Lb (Tb × Td)) (xs:Lb Ta) (q:Bool),l.foldl (fun s e=>(s.1 ++ [cv e],s.2 || bd e)) (xs,q) = (xs ++ l.map cv,q || l.any bd):=by
   intro l
   induction l with
   | nil=>intro xs q; simp
   | cons e l ih=>intro xs q; rw [List.foldl_cons,ih]; simp [Bool.or_assoc]
  have hany:l'.any bd = (D.map mk2).any bd:=by
   rw [Bool.eq_iff_iff,List.any_eq_true,List.any_eq_true]
   exact ⟨fun ⟨x,h1,h2⟩=>⟨x,hl'.mem_iff.1 h1,h2⟩,fun ⟨x,h1,h2⟩=>⟨x,hl'.mem_iff.2 h1,h2⟩⟩
  rw [hfold,hX,hany]
  by_cases c:q0 = false/\∀ e ∈ D,FQ e.2
  ·have:(D.map mk2).any bd = false:=by
    rw [Bool.eq_false_iff]
    intro hc
    obtain ⟨x,h1,h2⟩:=List.any_eq_true.1 hc
    obtain ⟨d,hd,rfl⟩:=List.mem_map.1 h1
    rw [hbd] at h2
    exact of_decide_eq_true h2 (c.2 d hd)
   rw [this,c.1,if_neg (by decide),if_pos ⟨rfl,c.2⟩]
   refine sort_ms hf hn ?_ hu hp hl
   refine (hl'.map cv).trans (.of_eq ?_)
   rw [List.map_map]
   exact List.map_congr_left fun e he=>hcv e (c.2 e he)
  ·have:(q0 || (D.map mk2).any bd) = true:=by
    cases hq:q0 with
    | true=>rfl
    | false=>
     rw [Bool.false_or,List.any_eq_true]
     refine Classical.byContradiction fun hc=>c ⟨hq,fun e he=>Classical.byContradiction fun h=>hc ⟨mk2 e,List.mem_map.2 ⟨e,he,I⟩,?_⟩⟩
     rw [hbd]
     exact decide_eq_true h
   rw [this,if_pos I,if_neg c]
theorem iX (A:Lb (Rat × Rat)) (e:Rat × Rat):bN (A ++ [e]) = bf e.1 e.2 (bN A):=by
 unfold bN
 rw [List.foldl_append]; rfl
theorem putH {k b m:Nat} {T:Lb (Rat × Rat)} {x p:Rat} (hT:∀ e ∈ T,RF k e.1/\RF b e.2) (hx:RF k x) (hp:RF m p) (hk:k + k < 4000) (hb:m + b < 4000) (hl:T.length < 1000):aM_p FU (T.map mr) (RR x) (RR p) = some ((bf x p T).map mr):=by
 have hF:=aA
 have hh:=au (B:=aM_l1 FU (T.map mr) (RR x) (RR p)) (fun s:Bool × Nat × Lb Tc=>T.length - s.2.1)
  (fun s=>s.2.1 <= T.length/\s.2.2.length <= s.2.1 + (if s.1 = true then 1 else 0)/\s.2.2 ++ (if s.1 = true then (T.drop s.2.1).map mr else (bf x p (T.drop s.2.1)).map mr) = (bf x p T).map mr)
  (fun r=>r.2.length <= T.length + 1/\(if r.1 = true then r.2 else r.2 ++ [mr (x,p)]) = (bf x p T).map mr) ?_ FU (false,0,[]) ⟨Nat.zero_le _,by simp,by simp⟩ (by simp only; omega)
 ·obtain ⟨⟨q,xs⟩,e,h1,h2⟩:=hh
  unfold aM_p
  rw [e,aa]
  simp only at h1 h2 ⊢
  by_cases hq:q = true
  ·rw [if_pos hq]; rw [if_pos hq] at h2; rw [h2]
  ·rw [if_neg hq]; rw [if_neg hq] at h2
   rw [bp _ _ (by simp only [leC,leN]; omega),aa]
   exact congrArg some h2
 ·rintro ⟨q,i,xs⟩ J ⟨h1,h2,h3⟩ hJ
  simp only at h1 h2 h3 hJ
  have h2' : xs.length <= i + 1:=by split at h2 <;> omega
  unfold aM_l1
  simp only
  by_cases h0:i < T.length
  ·obtain ⟨f1,f2⟩:=hT T[i] (List.getElem_mem _)
   rw [if_pos (by simpa using h0),geE (by simpa using h0),aa,List.getElem_map]
   rw [List.drop_eq_getElem_cons h0] at h3
   rw [show (mr T[i]).fm = RR T[i].1 from I,ez f1 hx hk,aa]
   by_cases hq:q = true
   ·rw [if_pos hq] at h2 h3 ⊢
    rw [bp _ _ (by simp only [leC,leN]; omega),aa]
    refine hJ (q,i + 1,_) ⟨h0,by simp only [List.length_append,leC,leN,if_pos hq]; omega,?_⟩ (by simp only; omega)
    simp only
    rw [if_pos hq,<- h3,List.append_assoc]; rfl
   ·rw [if_neg hq] at h2 h3 ⊢
    rw [bf] at h3
    by_cases c1:T[i].1 = x
    ·rw [if_pos (bW.2 c1)]
     rw [if_pos c1] at h3
     rw [show (mr T[i]).fP = RR T[i].2 from rfl,fM f2 hp (by omega),aa,bp _ _ (by simp only [leC,leN]; omega),aa]
     refine hJ (true,i + 1,_) ⟨h0,by simp only [List.length_append,leC,leN,if_true]; omega,?_⟩ (by simp only; omega)
     simp only
     rw [if_pos trivial,<- h3]; simp [mr]
    ·rw [if_neg (fun hc=>c1 (bW.1 hc))]
     rw [if_neg c1] at h3
     unfold jn
     simp only
     by_cases c2:x < T[i].1
     ·rw [if_pos (eF.2 c2)]
      rw [if_pos c2] at h3
      rw [bp _ _ (by simp only [leC,leN]; omega),aa]
      rw [bp _ _ (by simp only [List.length_append,leC,leN]; omega),aa]
      refine hJ (true,i + 1,_) ⟨h0,by simp only [List.length_append,leC,leN,if_true]; omega,?_⟩ (by simp only; omega)
      simp only
      rw [if_pos trivial,<- h3,List.append_assoc,List.append_assoc]; rfl
     ·rw [if_neg (fun hc=>c2 (eF.1 hc))]
      rw [if_neg c2] at h3
      rw [bp _ _ (by simp only [leC,leN]; omega),aa]
      refine hJ (q,i + 1,_) ⟨h0,by simp only [List.length_append,leC,leN,if_neg hq]; omega,?_⟩ (by simp only; omega)
      simp only
      rw [if_neg hq,<- h3]; simp
  ·have hi:i = T.length:=by omega
   rw [if_neg (by simpa using h0)]
   refine ⟨_,I,?_⟩
   simp only
   rw [hi,List.drop_length] at h3
   refine ⟨by omega,?_⟩
   by_cases hq:q = true
   ·rw [if_pos hq] at h3 ⊢; simpa using h3
   ·rw [if_neg hq] at h3 ⊢; simpa [bf] using h3
open Classical in
theorem outRef {k b:Nat} {Z:Lb (Rat × Rat)} (hZ:∀ e ∈ Z,RF k e.1/\RF b e.2) (hk:k < 4000) (hb:b < 4000) (hl:Z.length <= 400):aD_p FU (Z.map mr) = some (if ∀ e ∈ Z,FQ e.1/\FQ e.2 then (Z.map ms,0) else ([],6)):=by
 have hF:=aA
 have hh:=au (B:=aD_l1 FU (Z.map mr)) (fun s=>Z.length - s.1) (fun s=>∃ i,i <= Z.length/\s = (i,(Z.take i).map ms)/\∀ e ∈ Z.take i,FQ e.1/\FQ e.2) (fun r=>((∀ e ∈ Z,FQ e.1/\FQ e.2)/\r = .inr (Z.map ms)) ∨ (¬ (∀ e ∈ Z,FQ e.1/\FQ e.2)/\r = .inl ([],6))) ?_ FU (0,[]) ⟨0,Nat.zero_le _,rfl,fun s hs=>by cases hs⟩ (by simp only; omega)
 ·unfold aD_p
  rw [if_neg (by rw [List.length_map]; omega)]
  obtain ⟨r,e,⟨h,rfl⟩ | ⟨h,rfl⟩⟩:=hh
  ·rw [e,if_pos h]; rfl
  ·rw [e,if_neg h]; rfl
 ·rintro s J ⟨i,hi,rfl,hp⟩ hJ
  unfold aD_l1
  simp only
  by_cases c:i < Z.length
  ·obtain ⟨f1,f2⟩:=hZ _ (List.getElem_mem c)
   rw [if_pos (by simpa using c),geE (by simpa using c),aa,List.getElem_map,show (mr Z[i]).fm = RR Z[i].1 from rfl,show (mr Z[i]).fP = RR Z[i].2 from rfl,mJ f1 hk,aa,mJ f2 hb,aa]
   by_cases c1:FQ Z[i].1
   ·by_cases c2:FQ Z[i].2
    ·rw [if_pos c1,if_pos c2,if_pos rfl,if_pos rfl,bp _ _ (by simp only [List.length_map,List.length_take,leC,leN]; omega),aa]
     refine hJ _ ⟨i + 1,c,?_,fun e he=>?_⟩ (by simp only; omega)
     ·rw [List.take_succ_eq_append_getElem c,List.map_append]; rfl
     ·rw [List.take_succ_eq_append_getElem c] at he
      rcases List.mem_append.1 he with he | he
      ·exact hp e he
      ·rw [List.mem_singleton.1 he]; exact ⟨c1,c2⟩
    ·rw [if_pos c1,if_neg c2,if_pos I,if_neg (by decide)]
     exact ⟨_,I,.inr ⟨fun hc=>c2 (hc _ (List.getElem_mem c)).2,I⟩⟩
   ·rw [if_neg c1,if_neg (by decide)]
    exact ⟨_,I,.inr ⟨fun hc=>c1 (hc _ (List.getElem_mem c)).1,I⟩⟩
  ·rw [if_neg (by simpa using c)]
   refine ⟨_,I,.inl ⟨?_,?_⟩⟩
   ·rwa [List.take_of_length_le (by omega)] at hp
   ·rw [List.take_of_length_le (by omega)]
set_option maxRecDepth 8000
structure Mx (L:List (List (Rat × Rat))) (ws:List Rat):Prop where
 fq:∀ T ∈ L,∀ e ∈ T,FQ e.1/\FQ e.2
 fw:∀ q ∈ ws,FQ q
 ln:∀ T ∈ L,T.length <= 9
 eq:L.length = ws.length
 l4:ws.length <= 4
set_option maxRecDepth 8000
theorem pj:cu_p FU = some true:=by kernel_rfl
theorem jn_ok {α β:Type} {K:β -> Oa α} {F:(β -> Oa α) -> Oa α} {Q:Oa α -> Prop} (P:β -> Prop) (hK:∀ b,P b -> Q (K b)) (hF:∀ J:β -> Oa α,(∀ b,P b -> Q (J b)) -> Q (F J)):Q (jn K F):=hF K hK
theorem pA (xs:Lb Ta) (h:xs.length <= 1000):aP_p FU xs = some xs:=by
 unfold aP_p
 rw [bp _ _ (by simp only [leN]; omega),aa,List.nil_append]
 exact lZ fun h=>by rw [h]
theorem fS (t:T8):∃ b,ap_p FU t = some b:=by
 have hF:=aA
 have hh:=au (B:=ap_l1 FU t) (fun i:Nat=>6 - i) (fun _=>True) (fun _=>True) ?_ FU 0 trivial (by omega)
 ·obtain ⟨r,e,_⟩:=hh
  unfold ap_p
  rw [e]
  cases r with
  | inl b=>exact ⟨_,rfl⟩
  | inr u=>exact ⟨_,rfl⟩
 ·intro i J _ hJ
  unfold ap_l1 ce_p
  simp only
  by_cases c:i < ([t.2.2.1,t.2.2.2.1,t.2.2.2.2.1,t.2.2.2.2.2.1,t.2.2.2.2.2.2.1,t.2.2.2.2.2.2.2]:Lb Ua).length
  ·have c6:i < 6:=c
   rw [if_pos c,geE c,aa,aa]
   split
   ·exact ⟨_,I,trivial⟩
   ·exact hJ (i + 1) trivial (by omega)
  ·rw [if_neg c]
   exact ⟨_,I,trivial⟩
theorem ownAny (a0:Lb Ta):∃ r,bH_p FU a0 = some r/\r.length <= 6:=by
 have hF:=aA
 unfold bH_p
 rw [lK (Nat.min_le_left _ _),aa]
 have hl:(a0.take (min a0.length 6)).length <= 6:=by rw [List.length_take]; omega
 rw [pA _ (by omega),aa]
 generalize a0.take (min a0.length 6) = ys at hl ⊢
 have hh:=au (B:=bH_l1 FU ys) (fun s=>ys.length - s.1) (fun s=>s.2.length = ys.length) (fun r=>r.length = ys.length) ?_ FU (0,ys) rfl (by simp only; omega)
 ·obtain ⟨r,e,h⟩:=hh
  rw [e]
  exact ⟨r,I,by omega⟩
 ·rintro ⟨i,xs⟩ J h hJ
  simp only at h hJ
  unfold bH_l1
  simp only
  by_cases c:i < ys.length
  ·have put1:∀ (zs:Lb Ta) (m:Ta),zs.length = ys.length -> ∃ us,put zs ((i:Nat):Int) m = some us/\us.length = ys.length:=fun zs m hz=>
    ⟨_,bR m (by omega),by rw [List.length_set]; exact hz⟩
   have last:∀ (zs:Lb Ta) (m:Ta),zs.length = ys.length -> ∃ r,((put zs ((i:Nat):Int) m).bind fun us=>J (i + 1,us)) = some r/\r.length = ys.length:=fun zs m hz=>by
    obtain ⟨us,e,hu⟩:=put1 zs m hz
    rw [e,aa]
    exact hJ (i + 1,us) hu (by simp only; omega)
   have tail:∀ zs:Lb Ta,zs.length = ys.length -> ∃ r,((zs[i]?).bind fun x=>(ap_p FU x.fP.fN).bind fun y=>if y = true then (ap_p FU x.fP.fD).bind fun y2=>(if y2 = true then J (i + 1,zs) else (put zs ((i:Nat):Int) (⟨x.fm,noS⟩:Ta)).bind fun us=>J (i + 1,us)) else (put zs ((i:Nat):Int) (⟨x.fm,noS⟩:Ta)).bind fun us=>J (i + 1,us)) = some r/\r.length = ys.length:=fun zs hz=>by
    rw [geE (show i < zs.length by omega),aa]
    obtain ⟨b,e⟩:=fS zs[i].fP.fN
    rw [e,aa]
    split
    ·obtain ⟨b2,e2⟩:=fS zs[i].fP.fD
     rw [e2,aa]
     split
     ·exact hJ (i + 1,zs) hz (by simp only; omega)
     ·exact last zs _ hz
    ·exact last zs _ hz
   rw [if_pos c,geE (show i < xs.length by omega),aa]
   obtain ⟨b,e⟩:=fS xs[i].fm.fN
   rw [e,aa]
   split
   ·obtain ⟨b2,e2⟩:=fS xs[i].fm.fD
    rw [e2,aa]
    unfold jn
    simp only
    split
    ·exact tail xs h
    ·obtain ⟨us,e3,hu⟩:=put1 xs ⟨⟨(0,0,0,0,0,0,0,0),(0,0,0,0,0,0,0,0)⟩,xs[i].fP⟩ h
     rw [e3,aa]
     exact tail us hu
   ·obtain ⟨us,e3,hu⟩:=put1 xs ⟨⟨(0,0,0,0,0,0,0,0),(0,0,0,0,0,0,0,0)⟩,xs[i].fP⟩ h
    rw [e3,aa]
    exact tail us hu
  ·rw [if_neg c]
   exact ⟨_,I,h⟩
theorem bendAny (b:Tl) (xs:Lb Ta) (h0:0 < xs.length) (h8:xs.length <= 8):∃ r,bV_p FU b xs = some r/\r.length <= 9:=by
 have ha:=UInt8.toNat_lt b.fm
 unfold bV_p
 rw [pA _ (by omega),aa]
 unfold cK
 rw [if_neg (by omega),aa]
 have s0:0 <= ((b.fm.toNat:Nat):Int).tmod ((xs.length:Nat):Int):=Int.tmod_nonneg _ (by omega)
 have s1:((b.fm.toNat:Nat):Int).tmod ((xs.length:Nat):Int) < ((xs.length:Nat):Int):=Int.tmod_lt_of_pos _ (by omega)
 generalize ((b.fm.toNat:Nat):Int).tmod ((xs.length:Nat):Int) = s at s0 s1 ⊢
 have hs:s.toNat < xs.length:=by omega
 split
 ·rw [bn s0 hs,aa,bR _ hs,aa]
  exact ⟨_,rfl,by rw [List.length_set]; omega⟩
 ·split
  ·rw [bn s0 hs,aa,bR _ hs,aa]
   exact ⟨_,rfl,by rw [List.length_set]; omega⟩
  ·split
   ·rw [bn s0 hs,aa,bp _ _ (by simp only [leC,leN]; omega),aa]
    exact ⟨_,rfl,by simp only [List.length_append,leC,leN]; omega⟩
   ·split
    ·rw [aW (by omega) (by omega),aa]
     unfold chk3
     rw [if_pos (by omega),aa,if_neg (by omega)]
     exact ⟨_,I,Nat.le_trans (List.length_take_le _ _) (by omega)⟩
    ·exact ⟨_,I,by omega⟩
set_option maxRecDepth 8000
theorem Wh.sub {k m b:Nat} {W A:Lb (Rat × Rat)} (h:Wh k m b W) (s:A.Sublist W):Wh k m b A:=
 ⟨fun e he=>h.key e (s.mem he),fun e he=>h.wts e (s.mem he),Nat.le_trans (Nat.add_le_add_right (Nat.mul_le_mul_left _ s.length_le) 8) h.bnd,h.lim,Nat.le_trans s.length_le h.len⟩
def Pq (V:Lb (Rat × Rat)) (q:Bool) (D:Lb (Tb × Td)):Prop:=
 ∃ A,A.Sublist V/\(∀ e ∈ A,FQ e.1)/\D = (nO A).map mk2/\(q = false -> A = V)/\(q = true -> ∃ e ∈ V,¬ FQ e.1)
theorem Pq.nil:Pq [] false []:=⟨[],List.Sublist.refl _,fun e he=>(by cases he),rfl,fun _=>rfl,fun h=>(by cases h)⟩
theorem Pq.put {k m b:Nat} {W V B:Lb (Rat × Rat)} {q:Bool} {D:Lb (Tb × Td)} {x p:Rat} {β:Type} (h:Pq V q D) (hW:Wh k m b W) (e:W = V ++ ((x,p) :: B)) (Q:Oa β -> Prop) (J:Bool -> Lb (Tb × Td) -> Oa β)
  (hJ:∀ q' D', Pq (V ++ [(x,p)]) q' D' -> Q (J q' D')) :
  Q ((ac_p FU (Rt x)).bind fun y=>if y.2 = 0 then dI (br D y.1) (J q (aC D y.1 (Rt p))) (fun z=>(ab_p FU (Rt p) z).bind fun v=>J q (aC D y.1 v)) else J true D):=by
 obtain ⟨A,h1,h2,rfl,h3,h4⟩:=h
 have hp:RF m p:=hW.wts (x,p) (by rw [e]; exact List.mem_append_right _ (List.mem_cons_self ..))
 rw [kD,aa]
 by_cases c:FQ x
 ·rw [if_pos c,if_pos I]
  have hA:=(hW.sub (h1.trans (by rw [e]; exact List.sublist_append_left V _))).gat (List.append_nil _).symm (fG A)
  rw [pcaseH c hp ((fG A).fq h2) (fun e he=>(hA e he).2) hW.lim (J q),<- nQ]
  refine hJ q _ ⟨A ++ [(x,p)],h1.append (List.Sublist.refl _),fun d hd=>?_,rfl,fun hq=>by rw [h3 hq],fun hq=>?_⟩
  ·rcases List.mem_append.1 hd with hd | hd
   ·exact h2 d hd
   ·rw [List.mem_singleton.1 hd]; exact c
  ·obtain ⟨d,hd,hn⟩:=h4 hq
   exact ⟨d,List.mem_append_left _ hd,hn⟩
 ·rw [if_neg c,if_neg (by decide)]
  refine hJ true _ ⟨A,h1.trans (List.sublist_append_left ..),h2,rfl,fun hq=>by (cases hq),fun _=>⟨(x,p),List.mem_append_right _ (List.mem_cons_self ..),c⟩⟩
noncomputable def outL (W:Lb (Rat × Rat)):Lb Ta × Int:=
 open Classical in if ∀ e ∈ bN W,FQ e.1/\FQ e.2 then ((bN W).map ms,0) else ([],6)
theorem io {W:Lb (Rat × Rat)} (h:W.length <= 100):(outL W).1.length < 1000:=by
 have:=(cU W).1.len
 unfold outL
 split
 ·rw [List.length_map]; omega
 ·decide
theorem Pq.len {V:Lb (Rat × Rat)} {q:Bool} {D:Lb (Tb × Td)} (h:Pq V q D):D.length <= V.length:=by
 obtain ⟨A,h1,_,rfl,_⟩:=h
 have h2:=(fG A).len
 have h3:=h1.length_le
 rw [List.length_map]; omega
open Classical in
theorem Pq.out {X:Lb Ta × Bool -> Oa (Lb Ta × Int)} {B:Tb × Td -> (Lb Ta × Bool -> Oa (Lb Ta × Int)) -> Lb Ta × Bool -> Oa (Lb Ta × Int)}
  (hX:∀ xs q,X (xs,q) = if q = true then some (([]:Lb Ta),(6:Int)) else ((bq_p FU (ac ((xs.length:Nat):Int))).bind fun y=>(dK (fun x9 y9=>ah_p FU x9 y9) y xs).bind fun z=>some (z,(0:Int))))
  (hB:∀ e J xs q,B e J (xs,q) = ((ac_p FU e.2).bind fun y861=>jn (fun q876=>(app xs ([(⟨e.1,y861.1⟩:Ta)]:Lb Ta)).bind fun xs888=>J (xs888,q876)) (fun J880=>(if y861.2 = 0 then J880 q else J880 true))))
  {W:Lb (Rat × Rat)} {q:Bool} {D:Lb (Tb × Td)} (h:Pq W q D) (hl:W.length <= 100):mloop X B FU D ([],q) = some (outL W):=by
 have hd:=h.len
 obtain ⟨A,h1,h2,rfl,h3,h4⟩:=h
 obtain ⟨z1,z2⟩:=cU A
 have g:=fG A
 have hp:=z1.perm2 g
 rw [List.length_map] at hd
 rw [gatherH (U:=bN A) hX hB q (g.fq h2) g.nd z2 hp (by omega)]
 congr 1
 unfold outL
 cases q with
 | false=>
  have hA:=h3 I
  subst hA
  by_cases c:∀ e ∈ nO A,FQ e.2
  ·rw [if_pos ⟨rfl,c⟩,if_pos fun e he=>⟨z1.fq h2 e he,c e (hp.mem_iff.1 he)⟩]
  ·rw [if_neg fun hc=>c hc.2,if_neg fun hc=>c fun e he=>(hc e (hp.mem_iff.2 he)).2]
 | true=>
  obtain ⟨d,hd,hn⟩:=h4 I
  rw [if_neg (fun hc=>by cases hc.1),if_neg]
  intro hc
  obtain ⟨e,he,e1⟩:=List.mem_map.1 (((cU W).1.keys d.1).2 (List.mem_map.2 ⟨d,hd,I⟩))
  exact hn (e1 ▸ (hc e he).1)
theorem ke {k m b:Nat} {W Z:Lb (Rat × Rat)} (h:Wh k m b W) (hk:k < 4000) (g:Gat W Z) (u:Up Z):aD_p FU (Z.map mr) = some (outL W):=by
 obtain ⟨z1,z2⟩:=cU W
 rw [g.one z1 u z2]
 have:=h.len
 have:=z1.len
 have:=h.lim
 rw [outRef (h.gat (List.append_nil _).symm z1) hk (by omega) (by omega)]
 rfl
theorem ni {T:Lb (Rat × Rat)} (h:∀ e ∈ T,FQ e.1/\FQ e.2) (hl:T.length <= 400):aX_p FU (T.map ms) = some (T.map mr):=by
 have hF:=aA
 have hh:=au (B:=aX_l1 FU (T.map ms)) (fun s=>T.length - s.1) (fun s=>∃ i,i <= T.length/\s = (i,(T.take i).map mr)) (fun r=>r = T.map mr) ?_ FU (0,[]) ⟨0,Nat.zero_le _,rfl⟩ (by simp only; omega)
 ·obtain ⟨r,e,rfl⟩:=hh
  unfold aX_p
  rw [e]; rfl
 ·rintro s J ⟨i,hi,rfl⟩ hJ
  unfold aX_l1
  simp only
  by_cases c:i < T.length
  ·obtain ⟨f1,f2⟩:=h _ (List.getElem_mem c)
   rw [if_pos (by simpa using c),geE (by simpa using c),aa,List.getElem_map,show (ms T[i]).fm = Sg T[i].1 from rfl,show (ms T[i]).fP = Sg T[i].2 from rfl,inS f1,aa,inS f2,aa,bp _ _ (by simp only [List.length_map,List.length_take,leC,leN]; omega),aa]
   refine hJ _ ⟨i + 1,c,?_⟩ (by simp only; omega)
   rw [List.take_succ_eq_append_getElem c,List.map_append]; rfl
  ·rw [if_neg (by simpa using c)]
   refine ⟨_,I,?_⟩
   rw [List.take_of_length_le (by omega)]
def chg (f:Rat -> Rat) (T:Lb (Rat × Rat)):Lb (Rat × Rat):=T.map fun e=>(f e.1,e.2)
theorem cm (f:Rat -> Rat) (T:Lb (Rat × Rat)):(chg f T).length = T.length:=List.length_map ..
theorem pn {f:Rat -> Rat} {T:Lb (Rat × Rat)} {i:Nat} (h:i < T.length):(chg f T)[i]'(by rw [cm]; exact h) = (f T[i].1,T[i].2):=by unfold chg; rw [List.getElem_map]
theorem gn {f:Rat -> Rat} {T:Lb (Rat × Rat)} {i:Nat} (h:i < T.length):chg f T = (chg f T).take i ++ ((f T[i].1,T[i].2) :: (chg f T).drop (i + 1)):=by
 rw [<- pn (f:=f) h,<- List.drop_eq_getElem_cons,List.take_append_drop]
theorem ft {f:Rat -> Rat} {T:Lb (Rat × Rat)} {i:Nat} (h:i < T.length):(chg f T).take (i + 1) = (chg f T).take i ++ [(f T[i].1,T[i].2)]:=by
 rw [List.take_succ_eq_append_getElem (by rw [cm]; exact h),pn h]
theorem iC {f:Rat -> Rat} {T:Lb (Rat × Rat)} {k:Nat} (h:∀ e ∈ T,FQ e.1/\FQ e.2) (hl:T.length <= 9) (hf:∀ e ∈ T,RF k (f e.1)):Wh k 8 100 (chg f T):=by
 refine ⟨fun e he=>?_,fun e he=>?_,by rw [cm]; omega,by omega,by rw [cm]; omega⟩
 ·obtain ⟨d,hd,rfl⟩:=List.mem_map.1 he
  exact hf d hd
 ·obtain ⟨d,hd,rfl⟩:=List.mem_map.1 he
  exact (h d hd).2.rf
theorem kE {a b:Rat} (ha:FQ a) (hb:FQ b):RF 17 (a + b):=(iH ha.rf hb.rf (by omega)).2
theorem mX {a b:Rat} (ha:FQ a) (hb:FQ b):RF 17 (a * b):=(iB ha.rf hb.rf (by omega)).2.mono (by omega)
theorem shiftI {T:Lb (Rat × Rat)} {a:Rat} (h:∀ e ∈ T,FQ e.1/\FQ e.2) (ha:FQ a) (hl:T.length <= 9):∃ q D,ao (aO_l1 FU (T.map ms) (Rt a)) FU (0,false,[]) = some (D,q)/\Pq (chg (fun x=>a + x) T) q D:=by
 have hF:=aA
 have hW:=iC (f:=fun x=>a + x) h hl fun e he=>kE ha (h e he).1
 have hh:=au (B:=aO_l1 FU (T.map ms) (Rt a)) (fun s=>T.length - s.1) (fun s=>s.1 <= T.length/\Pq ((chg (fun x=>a + x) T).take s.1) s.2.1 s.2.2) (fun r=>Pq (chg (fun x=>a + x) T) r.2 r.1) ?_ FU (0,false,[]) ⟨Nat.zero_le _,Pq.nil⟩ (by simp only; omega)
 ·obtain ⟨⟨D,q⟩,e,h⟩:=hh
  exact ⟨q,D,e,h⟩
 ·rintro ⟨i,q,D⟩ J ⟨hi,hp⟩ hJ
  simp only at hi hp hJ
  unfold aO_l1
  simp only
  by_cases c:i < T.length
  ·obtain ⟨f1,f2⟩:=h _ (List.getElem_mem c)
   rw [if_pos (by simpa using c),geE (by simpa using c),aa,List.getElem_map,show (ms T[i]).fm = Sg T[i].1 from rfl,cg FU _ f1 (by omega),aa,(iH ha.rf f1.rf (by omega)).1,aa,pG f2,aa]
   refine hp.put hW (gn c) (fun o=>∃ r,o = some r/\Pq (chg (fun x=>a + x) T) r.2 r.1) (fun q D=>J (i + 1,q,D)) fun q' D' h' =>?_
   rw [<- ft c] at h'
   exact hJ (i + 1,q', D') ⟨c,h'⟩ (by simp only; omega)
  ·rw [if_neg (by simpa using c)]
   refine ⟨_,I,?_⟩
   rwa [List.take_of_length_le (by rw [cm]; omega)] at hp
theorem scaleI {T:Lb (Rat × Rat)} {a:Rat} (h:∀ e ∈ T,FQ e.1/\FQ e.2) (ha:FQ a) (hl:T.length <= 9):∃ q D,ao (aJ_l1 FU (T.map ms) (Rt a)) FU (0,false,[]) = some (D,q)/\Pq (chg (fun x=>a * x) T) q D:=by
 have hF:=aA
 have hW:=iC (f:=fun x=>a * x) h hl fun e he=>mX ha (h e he).1
 have hh:=au (B:=aJ_l1 FU (T.map ms) (Rt a)) (fun s=>T.length - s.1) (fun s=>s.1 <= T.length/\Pq ((chg (fun x=>a * x) T).take s.1) s.2.1 s.2.2) (fun r=>Pq (chg (fun x=>a * x) T) r.2 r.1) ?_ FU (0,false,[]) ⟨Nat.zero_le _,Pq.nil⟩ (by simp only; omega)
 ·obtain ⟨⟨D,q⟩,e,h⟩:=hh
  exact ⟨q,D,e,h⟩
 ·rintro ⟨i,q,D⟩ J ⟨hi,hp⟩ hJ
  simp only at hi hp hJ
  unfold aJ_l1
  simp only
  by_cases c:i < T.length
  ·obtain ⟨f1,f2⟩:=h _ (List.getElem_mem c)
   rw [if_pos (by simpa using c),geE (by simpa using c),aa,List.getElem_map,show (ms T[i]).fm = Sg T[i].1 from rfl,cg FU _ f1 (by omega),aa,(iB ha.rf f1.rf (by omega)).1,aa,pG f2,aa]
   refine hp.put hW (gn c) (fun o=>∃ r,o = some r/\Pq (chg (fun x=>a * x) T) r.2 r.1) (fun q D=>J (i + 1,q,D)) fun q' D' h' =>?_
   rw [<- ft c] at h'
   exact hJ (i + 1,q', D') ⟨c,h'⟩ (by simp only; omega)
  ·rw [if_neg (by simpa using c)]
   refine ⟨_,I,?_⟩
   rwa [List.take_of_length_le (by rw [cm]; omega)] at hp
theorem scaleR {T:Lb (Rat × Rat)} {a:Rat} (h:∀ e ∈ T,FQ e.1/\FQ e.2) (ha:FQ a) (hl:T.length <= 9):ao (ak_l1 FU (T.map mr) (Sg a)) FU ([],0) = some ((bN (chg (fun x=>a * x) T)).map mr):=by
 have hF:=aA
 have hW:=iC (f:=fun x=>a * x) h hl fun e he=>mX ha (h e he).1
 have hh:=au (B:=ak_l1 FU (T.map mr) (Sg a)) (fun s=>T.length - s.2) (fun s=>∃ i,i <= T.length/\s = ((bN ((chg (fun x=>a * x) T).take i)).map mr,i)) (fun r=>r = (bN (chg (fun x=>a * x) T)).map mr) ?_ FU ([],0) ⟨0,Nat.zero_le _,rfl⟩ (by simp only; omega)
 ·obtain ⟨r,e,rfl⟩:=hh
  exact e
 ·rintro s J ⟨i,hi,rfl⟩ hJ
  unfold ak_l1
  simp only
  by_cases c:i < T.length
  ·obtain ⟨f1,f2⟩:=h _ (List.getElem_mem c)
   obtain ⟨c1,c2⟩:=cU ((chg (fun x=>a * x) T).take i)
   have hd:=hW.gat (gn c) c1
   have hcl:=c1.len
   rw [List.length_take,cm] at hcl
   rw [if_pos (by simpa using c),geE (by simpa using c),aa,List.getElem_map,inS ha,aa,show (mr T[i]).fm = RR T[i].1 from rfl,show (mr T[i]).fP = RR T[i].2 from rfl,ji f1.rf ha.rf (by omega),aa]
   rw [Rat.mul_comm T[i].1,putH hd (mX ha f1) f2.rf (by omega) (by omega) (by omega),aa]
   refine hJ _ ⟨i + 1,c,?_⟩ (by simp only; omega)
   rw [ft c,iX]
  ·rw [if_neg (by simpa using c)]
   refine ⟨_,I,?_⟩
   rw [List.take_of_length_le (by rw [cm]; omega)]
theorem shiftR {T:Lb (Rat × Rat)} {a:Rat} (h:∀ e ∈ T,FQ e.1/\FQ e.2) (ha:FQ a) (hl:T.length <= 9):ao (aj_l1 FU (Sg a)) FU (0,T.map mr) = some ((chg (fun x=>a + x) T).map mr):=by
 have hF:=aA
 have hcl:=cm (fun x=>a + x) T
 have hh:=au (B:=aj_l1 FU (Sg a)) (fun s=>T.length - s.1) (fun s=>∃ i,i <= T.length/\s = (i,((chg (fun x=>a + x) T).take i).map mr ++ (T.drop i).map mr)) (fun r=>r = (chg (fun x=>a + x) T).map mr) ?_ FU (0,T.map mr) ⟨0,Nat.zero_le _,rfl⟩ (by simp only; omega)
 ·obtain ⟨r,e,rfl⟩:=hh
  exact e
 ·rintro s J ⟨i,hi,rfl⟩ hJ
  have hli:(((chg (fun x=>a + x) T).take i).map mr).length = i:=by rw [List.length_map,List.length_take]; omega
  have hlen:(((chg (fun x=>a + x) T).take i).map mr ++ (T.drop i).map mr).length = T.length:=by rw [List.length_append,hli,List.length_map,List.length_drop]; omega
  unfold aj_l1
  simp only
  by_cases c:i < T.length
  ·obtain ⟨f1,f2⟩:=h _ (List.getElem_mem c)
   have hat:(((chg (fun x=>a + x) T).take i).map mr ++ (T.drop i).map mr)[i]? = some (mr T[i]):=by
    rw [List.getElem?_append_right (by omega),hli,Nat.sub_self,List.drop_eq_getElem_cons c]; rfl
   rw [if_pos (by omega),hat,aa,inS ha,aa,show (mr T[i]).fm = RR T[i].1 from I,show (mr T[i]).fP = RR T[i].2 from I,fM f1.rf ha.rf (by omega),aa,bR _ (by omega),aa]
   refine hJ _ ⟨i + 1,c,?_⟩ (by simp only; omega)
   refine congrArg (Prod.mk (i + 1)) ?_
   rw [List.set_append_right _ _ (by omega),hli,Nat.sub_self,List.drop_eq_getElem_cons c,ft c,List.map_append,List.append_assoc,Rat.add_comm T[i].1]
   rfl
  ·rw [if_neg (by omega)]
   refine ⟨_,I,?_⟩
   rw [List.take_of_length_le (by omega),List.drop_of_length_le (by omega)]
   simp
theorem pu {T:Lb (Rat × Rat)} {a:Rat} (u:Up T):Up (chg (fun x=>a + x) T):=by
 unfold Up chg
 rw [List.pairwise_map]
 exact u.imp fun {x y} h hc=>h (by simp only at hc; grind)
set_option maxRecDepth 8000
def eb (e:Rat × Rat) (U:Lb (Rat × Rat)):Lb (Rat × Rat):=U.map fun d=>(e.1 + d.1,e.2 * d.2)
def prS (T U:Lb (Rat × Rat)):Lb (Rat × Rat):=T.flatMap fun e=>eb e U
theorem de (e:Rat × Rat) (U:Lb (Rat × Rat)):(eb e U).length = U.length:=List.length_map ..
theorem jX {e:Rat × Rat} {U:Lb (Rat × Rat)} {j:Nat} (h:j < U.length):(eb e U)[j]'(by rw [de]; exact h) = (e.1 + U[j].1,e.2 * U[j].2):=by unfold eb; rw [List.getElem_map]
theorem mu (A B U:Lb (Rat × Rat)):prS (A ++ B) U = prS A U ++ prS B U:=List.flatMap_append ..
theorem prS_one (e:Rat × Rat) (U:Lb (Rat × Rat)):prS [e] U = eb e U:=by
 unfold prS
 rw [List.flatMap_cons,List.flatMap_nil,List.append_nil]
theorem iw {T U:Lb (Rat × Rat)} {i:Nat} (h:i < T.length):prS (T.take (i + 1)) U = prS (T.take i) U ++ eb T[i] U:=by
 rw [List.take_succ_eq_append_getElem h,mu,prS_one]
theorem nj {T U:Lb (Rat × Rat)} {i:Nat} (h:i < T.length):prS T U = prS (T.take i) U ++ (eb T[i] U ++ prS (T.drop (i + 1)) U):=by
 conv=>lhs; rw [<- List.take_append_drop (i + 1) T,mu,iw h,List.append_assoc]
theorem oJ {T U:Lb (Rat × Rat)} {i j:Nat} (h:i < T.length) (k:j < U.length):prS T U = (prS (T.take i) U ++ (eb T[i] U).take j) ++ ((T[i].1 + U[j].1,T[i].2 * U[j].2) :: ((eb T[i] U).drop (j + 1) ++ prS (T.drop (i + 1)) U)):=by
 have e:(eb T[i] U).drop j = (T[i].1 + U[j].1,T[i].2 * U[j].2) :: (eb T[i] U).drop (j + 1):=by
  rw [<- jX k,<- List.drop_eq_getElem_cons]
 rw [nj h,List.append_assoc,<- List.cons_append,<- e,<- List.append_assoc (List.take j _),List.take_append_drop]
theorem mP {n:Nat} (U:Lb (Rat × Rat)) (hU:U.length <= n):∀ T:Lb (Rat × Rat),(prS T U).length <= n * T.length
 | []=>Nat.zero_le _
 | e :: T=>by
  have ih:=mP U hU T
  show (eb e U ++ prS T U).length <= n * (T.length + 1)
  rw [List.length_append,de,Nat.mul_succ]
  omega
theorem mI {T U:Lb (Rat × Rat)} {e:Rat × Rat} (h:e ∈ prS T U):∃ x ∈ T,∃ y ∈ U,e = (x.1 + y.1,x.2 * y.2):=by
 obtain ⟨x,hx,h⟩:=List.mem_flatMap.1 h
 obtain ⟨y,hy,rfl⟩:=List.mem_map.1 h
 exact ⟨x,hx,y,hy,I⟩
theorem lX {T U:Lb (Rat × Rat)} (hT:∀ e ∈ T,FQ e.1/\FQ e.2) (hU:∀ e ∈ U,FQ e.1/\FQ e.2) (lT:T.length <= 9) (lU:U.length <= 9):Wh 17 16 1400 (prS T U):=by
 have hl:=mP U lU T
 refine ⟨fun e h=>?_,fun e h=>?_,by omega,by omega,by omega⟩
 ·obtain ⟨x,hx,y,hy,rfl⟩:=mI h
  exact kE (hT x hx).1 (hU y hy).1
 ·obtain ⟨x,hx,y,hy,rfl⟩:=mI h
  exact (iB (hT x hx).2.rf (hU y hy).2.rf (by omega)).2
theorem msetL {κ ν:Type} [DecidableEq κ] (x:κ) (v:ν):∀ D:Lb (κ × ν),(aC D x v).length <= D.length + 1
 | []=>by simp [aC]
 | d :: D=>by
  rw [aC]
  split
  ·simp
  ·have:=msetL x v D
   simp only [leC]
   omega
theorem keyAny (a0:Td) (h1:a0.fj.fk.length <= 20) (h2:a0.fh.fk.length <= 20):∃ s,bX_p FU a0 = some s:=by
 have hF:=aA
 unfold bX_p
 rw [bp _ _ (by simp only [leC,leN]; decide),aa]
 have hh:=au (B:=bX_l2 FU a0) (fun s=>a0.fj.fk.length - s.1) (fun s=>s.1 <= a0.fj.fk.length/\s.2.length = 1 + 8 * s.1) (fun r=>r.length <= 200) ?_ FU (0,[] ++ [bD ((a0.fj.fk.length:Nat):Int)]) ⟨Nat.zero_le _,rfl⟩ (by simp only; omega)
 ·obtain ⟨xs,e,hx⟩:=hh
  rw [e,aa,bp _ _ (by simp only [leC,leN]; omega),aa]
  have hh2:=au (B:=bX_l1 FU a0) (fun s=>a0.fh.fk.length - s.1) (fun s=>s.1 <= a0.fh.fk.length/\s.2.length <= 201 + 8 * s.1) (fun r=>r.length <= 400) ?_ FU (0,xs ++ [bD ((a0.fh.fk.length:Nat):Int)]) ⟨Nat.zero_le _,by simp only [List.length_append,leC,leN]; omega⟩ (by simp only; omega)
  ·obtain ⟨ys,e2,hy⟩:=hh2
   rw [e2,aa]
   split
   ·rw [bp _ _ (by simp only [leC,leN]; omega),aa]
    exact ⟨_,I⟩
   ·exact ⟨_,I⟩
  ·rintro ⟨i,zs⟩ J ⟨hi,hz⟩ hJ
   simp only at hi hz hJ
   unfold bX_l1
   simp only
   by_cases c:i < a0.fh.fk.length
   ·rw [if_pos c,geE c,aa]
    repeat rw [bp _ _ (by simp only [List.length_append,leC,leN]; omega),aa]
    exact hJ (i + 1,_) ⟨c,by simp only [List.length_append,leC,leN]; omega⟩ (by simp only; omega)
   ·rw [if_neg c]
    exact ⟨_,I,by omega⟩
 ·rintro ⟨i,zs⟩ J ⟨hi,hz⟩ hJ
  simp only at hi hz hJ
  unfold bX_l2
  simp only
  by_cases c:i < a0.fj.fk.length
  ·rw [if_pos c,geE c,aa]
   repeat rw [bp _ _ (by simp only [List.length_append,leC,leN]; omega),aa]
   exact hJ (i + 1,_) ⟨c,by simp only [List.length_append,leC,leN]; omega⟩ (by simp only; omega)
  ·rw [if_neg c]
   exact ⟨_,I,by omega⟩
theorem sumI {T U:Lb (Rat × Rat)} (hT:∀ e ∈ T,FQ e.1/\FQ e.2) (hU:∀ e ∈ U,FQ e.1/\FQ e.2) (lT:T.length <= 9) (lU:U.length <= 9) {i:Nat} (hi:i < T.length) {G:Lb (ByteArray × Bool)} {q:Bool} {D:Lb (Tb × Td)} (hG:G.length <= 9 * i) (hp:Pq (prS (T.take i) U) q D) :
  ∃ G' q' D', ao (bp_l1 FU (U.map ms) (ms T[i])) FU (0,G,q,D) = some (G', q', D')/\G'.length <= 9 * (i + 1)/\Pq (prS (T.take (i + 1)) U) q' D' :=by
 have hF:=aA
 have hW:=lX hT hU lT lU
 obtain ⟨f1,f2⟩:=hT _ (List.getElem_mem hi)
 have hh:=au (B:=bp_l1 FU (U.map ms) (ms T[i])) (fun s=>U.length - s.1) (fun s=>s.1 <= U.length/\s.2.1.length <= 9 * i + s.1/\Pq (prS (T.take i) U ++ (eb T[i] U).take s.1) s.2.2.1 s.2.2.2) (fun r=>r.1.length <= 9 * (i + 1)/\Pq (prS (T.take (i + 1)) U) r.2.1 r.2.2) ?_ FU (0,G,q,D) ⟨Nat.zero_le _,hG,by rw [List.take_zero,List.append_nil]; exact hp⟩ (by simp only; omega)
 ·obtain ⟨⟨G', q', D'⟩,e,h1,h2⟩:=hh
  exact ⟨G', q', D', e,h1,h2⟩
 ·rintro ⟨j,G,q,D⟩ J ⟨hj,hG,hp⟩ hJ
  simp only at hj hG hp hJ
  unfold bp_l1
  simp only
  by_cases c:j < U.length
  ·obtain ⟨g1,g2⟩:=hU _ (List.getElem_mem c)
   have hr:=kE f1 g1
   rw [if_pos (by simpa using c),geE (by simpa using c),aa,List.getElem_map,show (ms T[i]).fm = Sg T[i].1 from rfl,show (ms U[j]).fm = Sg U[j].1 from rfl,cg FU _ f1 (by omega),aa,cg FU _ g1 (by omega),aa,(iH f1.rf g1.rf (by omega)).1,aa]
   obtain ⟨y,ey⟩:∃ y,ac_p FU (Rt (T[i].1 + U[j].1)) = some y:=⟨_,kD _⟩
   rw [show ∀ f:Tb × Int -> Oa (Lb (ByteArray × Bool) × Bool × Lb (Tb × Td)),(ac_p FU (Rt (T[i].1 + U[j].1))).bind f = f y from fun f=>by rw [ey,aa]]
   refine jn_ok (Q:=fun o:Oa (Lb (ByteArray × Bool) × Bool × Lb (Tb × Td))=>∃ r,o = some r/\r.1.length <= 9 * (i + 1)/\Pq (prS (T.take (i + 1)) U) r.2.1 r.2.2) (fun G' : Lb (ByteArray × Bool)=>G'.length <= G.length + 1) (fun G' hG' =>?_) fun J2 hJ2=>?_
   ·rw [pG f2,aa,pG g2,aa,(iB f2.rf g2.rf (by omega)).1,aa]
    refine hp.put hW (oJ hi c) (fun o=>∃ r,o = some r/\r.1.length <= 9 * (i + 1)/\Pq (prS (T.take (i + 1)) U) r.2.1 r.2.2) (fun q D=>J (j + 1,G', q,D)) fun q' D' h' =>?_
    refine hJ (j + 1,G', q', D') ⟨c,by simp only; omega,?_⟩ (by simp only; omega)
    simp only
    rw [List.take_succ_eq_append_getElem (by rw [de]; exact c),jX c,<- List.append_assoc]
    exact h'
   ·split
    ·exact hJ2 _ (by omega)
    ·obtain ⟨s,es⟩:=keyAny (Rt (T[i].1 + U[j].1)) (Nat.le_trans hr.n.len (by decide)) (Nat.le_trans hr.d.len (by decide))
     rw [es,aa]
     exact hJ2 _ (msetL _ _ _)
  ·rw [if_neg (by simpa using c)]
   refine ⟨_,rfl,by simp only; omega,?_⟩
   rw [List.take_of_length_le (l:=eb T[i] U) (by rw [de]; omega),<- iw hi] at hp
   exact hp
theorem sumO {T U:Lb (Rat × Rat)} (hT:∀ e ∈ T,FQ e.1/\FQ e.2) (hU:∀ e ∈ U,FQ e.1/\FQ e.2) (lT:T.length <= 9) (lU:U.length <= 9) :
  ∃ G q D,ao (bp_l2 FU (T.map ms) (U.map ms)) FU (0,[],false,[]) = some (D,G,q)/\G.length <= 100/\Pq (prS T U) q D:=by
 have hF:=aA
 have hh:=au (B:=bp_l2 FU (T.map ms) (U.map ms)) (fun s=>T.length - s.1) (fun s=>s.1 <= T.length/\s.2.1.length <= 9 * s.1/\Pq (prS (T.take s.1) U) s.2.2.1 s.2.2.2) (fun r=>r.2.1.length <= 100/\Pq (prS T U) r.2.2 r.1) ?_ FU (0,[],false,[]) ⟨Nat.zero_le _,Nat.zero_le _,Pq.nil⟩ (by simp only; omega)
 ·obtain ⟨⟨D', G', q'⟩,e,h1,h2⟩:=hh
  exact ⟨G', q', D', e,h1,h2⟩
 ·rintro ⟨i,G,q,D⟩ J ⟨hi,hG,hp⟩ hJ
  simp only at hi hG hp hJ
  unfold bp_l2
  simp only
  by_cases c:i < T.length
  ·obtain ⟨G', q', D', e,h1,h2⟩:=sumI hT hU lT lU c hG hp
   rw [if_pos (by simpa using c),geE (by simpa using c),aa,List.getElem_map,e,aa]
   exact hJ (i + 1,G', q', D') ⟨c,h1,h2⟩ (by simp only; omega)
  ·rw [if_neg (by simpa using c)]
   refine ⟨_,rfl,by simp only; omega,?_⟩
   rw [List.take_of_length_le (by omega)] at hp
   exact hp
theorem sumRI {T U:Lb (Rat × Rat)} (hT:∀ e ∈ T,FQ e.1/\FQ e.2) (hU:∀ e ∈ U,FQ e.1/\FQ e.2) (lT:T.length <= 9) (lU:U.length <= 9) {i:Nat} (hi:i < T.length) :
  ao (ar_l1 FU (U.map mr) (T.map mr) i) FU ((bN (prS (T.take i) U)).map mr,0) = some ((bN (prS (T.take (i + 1)) U)).map mr):=by
 have hF:=aA
 have hW:=lX hT hU lT lU
 obtain ⟨f1,f2⟩:=hT _ (List.getElem_mem hi)
 have hh:=au (B:=ar_l1 FU (U.map mr) (T.map mr) i) (fun s=>U.length - s.2) (fun s=>∃ j,j <= U.length/\s = ((bN (prS (T.take i) U ++ (eb T[i] U).take j)).map mr,j)) (fun r=>r = (bN (prS (T.take (i + 1)) U)).map mr) ?_ FU ((bN (prS (T.take i) U)).map mr,0) ⟨0,Nat.zero_le _,by rw [List.take_zero,List.append_nil]⟩ (by simp only; omega)
 ·obtain ⟨r,e,rfl⟩:=hh
  exact e
 ·rintro s J ⟨j,hj,rfl⟩ hJ
  unfold ar_l1
  simp only
  by_cases c:j < U.length
  ·obtain ⟨g1,g2⟩:=hU _ (List.getElem_mem c)
   obtain ⟨c1,c2⟩:=cU (prS (T.take i) U ++ (eb T[i] U).take j)
   have hsp:=oJ hi c
   have hd:=hW.gat hsp c1
   have hcl:=c1.len
   have hwl:=hW.len
   rw [hsp,List.length_append] at hwl
   rw [if_pos (by simpa using c),geE (by simpa using hi),aa,geE (by simpa using c),aa,List.getElem_map,List.getElem_map,show (mr T[i]).fm = RR T[i].1 from rfl,show (mr U[j]).fm = RR U[j].1 from rfl,show (mr T[i]).fP = RR T[i].2 from rfl,show (mr U[j]).fP = RR U[j].2 from rfl,fM f1.rf g1.rf (by omega),aa,ji f2.rf g2.rf (by omega),aa]
   rw [putH hd (kE f1 g1) (iB f2.rf g2.rf (by omega)).2 (by omega) hW.lim (by omega),aa]
   refine hJ _ ⟨j + 1,c,?_⟩ (by simp only; omega)
   rw [List.take_succ_eq_append_getElem (by rw [de]; exact c),jX c,<- List.append_assoc,iX]
  ·rw [if_neg (by simpa using c)]
   refine ⟨_,I,?_⟩
   rw [List.take_of_length_le (l:=eb T[i] U) (by rw [de]; omega),<- iw hi]
theorem sumRO {T U:Lb (Rat × Rat)} (hT:∀ e ∈ T,FQ e.1/\FQ e.2) (hU:∀ e ∈ U,FQ e.1/\FQ e.2) (lT:T.length <= 9) (lU:U.length <= 9) :
  ao (ar_l2 FU (T.map mr) (U.map mr)) FU ([],0) = some ((bN (prS T U)).map mr):=by
 have hF:=aA
 have hh:=au (B:=ar_l2 FU (T.map mr) (U.map mr)) (fun s=>T.length - s.2) (fun s=>∃ i,i <= T.length/\s = ((bN (prS (T.take i) U)).map mr,i)) (fun r=>r = (bN (prS T U)).map mr) ?_ FU ([],0) ⟨0,Nat.zero_le _,rfl⟩ (by simp only; omega)
 ·obtain ⟨r,e,rfl⟩:=hh
  exact e
 ·rintro s J ⟨i,hi,rfl⟩ hJ
  unfold ar_l2
  simp only
  by_cases c:i < T.length
  ·rw [if_pos (by simpa using c),sumRI hT hU lT lU c,aa]
   exact hJ _ ⟨i + 1,c,rfl⟩ (by simp only; omega)
  ·rw [if_neg (by simpa using c)]
   refine ⟨_,I,?_⟩
   rw [List.take_of_length_le (by omega)]
open Classical in
theorem sumAny2 (x y:Lb Ta) (hx:x.length <= 9) (hy:y.length <= 9):∃ r:Lb Ta × Int,bp_p FU x y = some r/\ar_p FU x y = some r/\r.1.length < 1000:=by
 have ha:=iW [x,y] [] (by simp) (fun z h=>by
  rcases List.mem_cons.1 h with rfl | h
  ·omega
  ·rw [List.mem_singleton.1 h]; omega) (by simp)
 have hs:Shs []:=fun s h=>by cases h
 unfold bp_p ar_p
 rw [ha,aa,eV x (by omega),aa]
 by_cases cx:Okm x
 ·rw [decide_eq_true cx,if_pos I,eV y (by omega),aa]
  by_cases cy:Okm y
  ·have ho:Oks [x,y]:=fun z h=>by
    rcases List.mem_cons.1 h with rfl | h
    ·exact cx
    ·rw [List.mem_singleton.1 h]; exact cy
   rw [decide_eq_true cy]
   obtain ⟨T,rfl,gT,_,_⟩:=cx
   obtain ⟨U,rfl,gU,_,_⟩:=cy
   rw [List.length_map] at hx hy
   obtain ⟨G,q,D,e1,h1,h2⟩:=sumO gT.fq gU.fq hx hy
   have hW:=lX gT.fq gU.fq hx hy
   have hl:=hW.len
   have hd:=h2.len
   rw [if_pos ho,if_pos hs,if_pos I,if_pos I,e1,aa,ni gT.fq (by omega),aa,ni gU.fq (by omega),aa,sumRO gT.fq gU.fq hx hy,aa,ke hW (by omega) (cU _).1 (cU _).2,aa]
   simp only
   rw [aW (by omega) (by omega),aa,if_neg (by omega),if_neg (by omega)]
   rw [Pq.out (fun xs q=>rfl) (fun e J xs q=>rfl) h2 hl]
   exact ⟨_,I,I,io hl⟩
  ·rw [decide_eq_false cy,if_neg (fun ho:Oks [x,y]=>cy (ho y (by simp))),if_neg (by decide),if_neg (by decide)]
   exact ⟨_,I,I,by decide⟩
 ·rw [decide_eq_false cx,if_neg (fun ho:Oks [x,y]=>cx (ho x (by simp))),if_neg (by decide),if_neg (by decide)]
  exact ⟨_,I,I,by decide⟩
open Classical in
theorem pk (x:Lb Ta) (a:Tb) (hx:x.length <= 9):∃ r:Lb Ta × Int,aO_p FU x a = some r/\aj_p FU x a = some r/\r.1.length < 1000:=by
 have hF:=aA
 have ha:=iW [x] [a] (by simp) (fun z h=>by rw [List.mem_singleton.1 h]; omega) (by simp)
 unfold aO_p aj_p
 rw [ha,aa,eV x (by omega),aa]
 by_cases cx:Okm x
 ·rw [decide_eq_true cx,if_pos (show Oks [x] from fun z h=>by rw [List.mem_singleton.1 h]; exact cx),if_pos I]
  rcases bw a with ⟨q,fq,rfl⟩ | ⟨e0,e1⟩
  ·obtain ⟨T,rfl,gT,_,_⟩:=cx
   rw [List.length_map] at hx
   obtain ⟨q2,D,e1,h2⟩:=shiftI gT.fq fq hx
   have hW:=iC (f:=fun x=>q + x) gT.fq hx fun e he=>kE fq (gT.fq e he).1
   have hl:=hW.len
   have hd:=h2.len
   have u:=pu (a:=q) gT.up
   rw [if_pos (show Shs [Sg q] from fun s h=>⟨q,fq,List.mem_singleton.1 h⟩),if_pos I,cg FU _ fq (by omega),aa,e1,aa,gq fq,aa,if_pos I,ni gT.fq (by omega),aa,shiftR gT.fq fq hx,aa,ke hW (by omega) (Gat.self u.nodup) u,aa]
   simp only
   rw [if_neg (by omega),Pq.out (fun xs q=>rfl) (fun e J xs q=>rfl) h2 hl]
   exact ⟨_,I,I,io hl⟩
  ·have hs:¬ Shs [a]:=fun hs=>by
    obtain ⟨q,fq,e⟩:=hs a (by simp)
    rw [e,eL fq] at e0
    cases e0
   rw [e1,aa,if_neg hs,if_neg (by decide),if_neg (by decide)]
   exact ⟨_,I,I,by decide⟩
 ·rw [decide_eq_false cx,if_neg (fun ho:Oks [x]=>cx (ho x (by simp))),if_neg (by decide),if_neg (by decide)]
  exact ⟨_,I,I,by decide⟩
open Classical in
theorem oc (x:Lb Ta) (a:Tb) (hx:x.length <= 9):∃ r:Lb Ta × Int,aJ_p FU x a = some r/\ak_p FU x a = some r/\r.1.length < 1000:=by
 have hF:=aA
 have ha:=iW [x] [a] (by simp) (fun z h=>by rw [List.mem_singleton.1 h]; omega) (by simp)
 unfold aJ_p ak_p
 rw [ha,aa,eV x (by omega),aa]
 by_cases cx:Okm x
 ·rw [decide_eq_true cx,if_pos (show Oks [x] from fun z h=>by rw [List.mem_singleton.1 h]; exact cx),if_pos I]
  rcases bw a with ⟨q,fq,rfl⟩ | ⟨e0,e1⟩
  ·obtain ⟨T,rfl,gT,_,_⟩:=cx
   rw [List.length_map] at hx
   obtain ⟨q2,D,e1,h2⟩:=scaleI gT.fq fq hx
   have hW:=iC (f:=fun x=>q * x) gT.fq hx fun e he=>mX fq (gT.fq e he).1
   have hl:=hW.len
   have hd:=h2.len
   rw [if_pos (show Shs [Sg q] from fun s h=>⟨q,fq,List.mem_singleton.1 h⟩),if_pos I,cg FU _ fq (by omega),aa,e1,aa,gq fq,aa,if_pos I,ni gT.fq (by omega),aa,scaleR gT.fq fq hx,aa,ke hW (by omega) (cU _).1 (cU _).2,aa]
   simp only
   rw [if_neg (by omega),Pq.out (fun xs q=>rfl) (fun e J xs q=>rfl) h2 hl]
   exact ⟨_,I,I,io hl⟩
  ·have hs:¬ Shs [a]:=fun hs=>by
    obtain ⟨q,fq,e⟩:=hs a (by simp)
    rw [e,eL fq] at e0
    cases e0
   rw [e1,aa,if_neg hs,if_neg (by decide),if_neg (by decide)]
   exact ⟨_,I,I,by decide⟩
 ·rw [decide_eq_false cx,if_neg (fun ho:Oks [x]=>cx (ho x (by simp))),if_neg (by decide),if_neg (by decide)]
  exact ⟨_,I,I,by decide⟩
theorem gK {x y:Lb Ta} (k:Oa Bool) (hx:x.length <= 9) (hy:y.length <= 9) :
  ((bp_p FU x y).bind fun y1=>(ar_p FU x y).bind fun y2=>(aa_p FU y1.1 y2.1).bind fun q=>if q = true then (if y1.2 = y2.2 then k else some false) else some false) = k:=by
 obtain ⟨r,e1,e2,h⟩:=sumAny2 x y hx hy
 rw [e1,aa,e2,aa,gW _ h,aa,if_pos I,if_pos I]
theorem bY {x:Lb Ta} {a:Tb} (k:Oa Bool) (hx:x.length <= 9) :
  ((aO_p FU x a).bind fun y1=>(aj_p FU x a).bind fun y2=>(aJ_p FU x a).bind fun z1=>(ak_p FU x a).bind fun z2=>(aa_p FU y1.1 y2.1).bind fun q=>if q = true then (if y1.2 = y2.2 then (aa_p FU z1.1 z2.1).bind fun q2=>if q2 = true then (if z1.2 = z2.2 then k else some false) else some false else some false) else some false) = k:=by
 obtain ⟨r,e1,e2,h⟩:=pk x a hx
 obtain ⟨s,f1,f2,h2⟩:=oc x a hx
 rw [e1,aa,e2,aa,f1,aa,f2,aa,gW _ h,aa,if_pos I,if_pos I,gW _ h2,aa,if_pos I,if_pos I]
theorem jc (a0:Lb Ta) (a1 a2:Th) (a3:Tl) (a4:Ti):bI_p FU a0 a1 a2 a3 a4 = some true:=by
 obtain ⟨o,eo,ho⟩:=ownAny a0
 obtain ⟨N,T,e1,n0,n8,dT⟩:=mW a1
 obtain ⟨M,U,e2,m0,m8,dU⟩:=mW a2
 obtain ⟨q,e3,hq⟩:=oz a4
 have lT:=dT.len
 have lU:=dU.len
 have pT:=(dT.dw n0 n8).len.1
 obtain ⟨r,er,hr⟩:=bendAny a3 (T.map ms) (by rw [List.length_map]; exact pT) (by rw [List.length_map]; omega)
 have h0:o.length <= 9:=by omega
 have h1:(T.map ms).length <= 9:=by rw [List.length_map]; omega
 have h2:(U.map ms).length <= 9:=by rw [List.length_map]; omega
 unfold bI_p cE_p
 rw [pj,aa,if_pos I,eo,aa,e1,aa,aa,er,aa,aa,e2,aa,aa]
 dsimp only
 refine (gK _ h0 h1).trans ?_
 rw [e3,aa]
 refine (bY _ h0).trans ?_
 refine (bY _ h0).trans ?_
 refine (gK _ h1 h2).trans ?_
 rw [aa]
 refine (bY _ h1).trans ?_
 refine (bY _ h1).trans ?_
 refine (gK _ h2 hr).trans ?_
 rw [aa]
 refine (bY _ h2).trans ?_
 refine (bY _ h2).trans ?_
 refine (gK _ h0 h0).trans ?_
 rw [aa]
 refine (bY _ h0).trans ?_
 exact bY _ h0
theorem jd (a0:Lb Ta) (a1 a2:Th) (a3:Tl) (a4:Ti):∃ n,bI_p n a0 a1 a2 a3 a4 = some true:=⟨FU,jc a0 a1 a2 a3 a4⟩
end Go.Proofs.YtkommhmbkbhmlaaGreat
