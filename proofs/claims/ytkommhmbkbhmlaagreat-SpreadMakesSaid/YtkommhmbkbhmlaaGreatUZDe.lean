/- Plain law: the program's distance is the distance. No program in sight but the printed functions. -/
import Derived.Test.YtkommhmbkbhmlaaGreatUZAk
namespace Go.Proofs.YtkommhmbkbhmlaaGreat
open Go
set_option maxRecDepth 8000
def md (q:Rat):Bool × List UInt64 × Bool × List UInt64:=((Rt q).fj.fc,(Rt q).fj.fk,(Rt q).fh.fc,(Rt q).fh.fk)
theorem numpos2 {q:Rat} (h:0 < q.num):0 < q:=by
 refine (Rat.lt_iff _ _).2 ?_
 have e1:(0:Rat).num = 0:=rfl
 have e2:((0:Rat).den:Int) = 1:=rfl
 rw [e1,e2]
 omega
end Go.Proofs.YtkommhmbkbhmlaaGreat
namespace Go.Proofs.YtkommhmbkbhmlaaGreat
open Go
def fI (W:List (Rat × Rat)):List (Rat × Rat):=W.foldl (fun T e=>bh e.1 e.2 T) []
theorem oL (W:List (Rat × Rat)):Gat W (fI W)/\Up (fI W):=by
 suffices ∀ (l P D:List (Rat × Rat)),Gat P D -> Up D -> Gat (P ++ l) (l.foldl (fun T e=>bh e.1 e.2 T) D)/\Up (l.foldl (fun T e=>bh e.1 e.2 T) D) from this W [] [] Gat.nil List.Pairwise.nil
 intro l
 induction l with
 | nil=>intro P D h u; rw [List.append_nil]; exact ⟨h,u⟩
 | cons e l ih=>
  intro P D h u
  have:=ih (P ++ [e]) _ (h.put u e.1 e.2) (gI e.1 e.2 u)
  rwa [List.append_assoc] at this
structure Wd (N:Nat) (W:List (Rat × Rat)):Prop where
 pos:0 < N
 le:N <= 1000000
 key:∀ e ∈ W,Bt 40 40 e.1
 wts:∀ e ∈ W,∃ k,0 < k/\k <= N/\e.2 = un k N
 sum:sW W = 1
 len:W.length <= 400
end Go.Proofs.YtkommhmbkbhmlaaGreat
namespace Go.Proofs.YtkommhmbkbhmlaaGreat
open Go
end Go.Proofs.YtkommhmbkbhmlaaGreat
namespace Go.Proofs.YtkommhmbkbhmlaaGreat
open Go
set_option maxRecDepth 8000
theorem nQ (A:List (Rat × Rat)) (e:Rat × Rat):kG (A ++ [e]) = jO (kG A) e:=by
 unfold kG
 rw [List.foldl_append]; rfl
theorem gg {a b:Rat × Rat} (ha:FQ a.1/\FQ a.2) (hb:FQ b.1/\FQ b.2):ms a = ms b ↔ a = b:=by
 refine ⟨fun h=>?_,fun h=>by rw [h]⟩
 have h1:Sg a.1 = Sg b.1:=congrArg Ta.fm h
 have h2:Sg a.2 = Sg b.2:=congrArg Ta.fP h
 exact Prod.ext (kj ha.1 hb.1 h1) (kj ha.2 hb.2 h2)
end Go.Proofs.YtkommhmbkbhmlaaGreat
namespace Go.Proofs.YtkommhmbkbhmlaaGreat
open Go
set_option maxRecDepth 8000
theorem RF.mono {l m:Nat} {q:Rat} (h:RF l q) (hm:l <= m):RF m q:=⟨h.n.mono hm,h.d.mono hm⟩
theorem mD (a b:Rat):a + b = Rat.divInt (a.num * b.den + b.num * a.den) (a.den * b.den):=by
 conv=>lhs; rw [<- Rat.num_divInt_den a,<- Rat.num_divInt_den b]
 exact Rat.divInt_add_divInt _ _ FQ.ndnz FQ.ndnz
theorem dd0 (a b:Rat):(a.den:Int) * b.den ≠ 0:=Int.mul_ne_zero FQ.ndnz FQ.ndnz
theorem pn {l m:Nat} {a b:Rat} (ha:RF l a) (hb:RF m b):Fit (l + m + 1) (a.num * b.den + b.num * a.den)/\Fit (l + m + 1) ((a.den:Int) * b.den):=by
 have f1:=ha.n.mul hb.d
 have f2:=hb.n.mul ha.d
 rw [Nat.add_comm] at f2
 exact ⟨f1.add f2,(ha.d.mul hb.d).mono (by omega)⟩
theorem mn {l m:Nat} {a b:Rat} (ha:RF l a) (hb:RF m b) (h:l + m < 4000):aa_p FU (Rt a) (Rt b) = some (Rt (a + b))/\RF (l + m + 1) (a + b):=by
 have hF:=aA
 obtain ⟨f1,f2⟩:=pn ha hb
 obtain ⟨e1,e2,e3⟩:=mU FU (l + m + 1) _ _ f1 f2 (dd0 a b) (by omega) hF
 have g2:=hb.n.mul ha.d
 rw [Nat.add_comm] at g2
 rw [<- mD] at e1 e2 e3
 refine ⟨?_,?_⟩
 ·unfold aa_p Rt
  rw [bM FU l m _ _ ha.n hb.d (by omega) (by omega),aa,bM FU m l _ _ hb.n ha.d (by omega) (by omega),aa,eh FU (l + m) _ _ (ha.n.mul hb.d) g2 (by omega) (by omega),aa,bM FU l m _ _ ha.d hb.d (by omega) (by omega),aa,e1]
  rfl
 ·rw [mD]; rw [mD] at e2 e3; exact RF.of f1 f2 e2 e3
theorem rcmpH {l m:Nat} {a b:Rat} (ha:RF l a) (hb:RF m b) (h:l + m < 4000):aG_p FU (Rt a) (Rt b) = some (sgn a b):=by
 have hF:=aA
 have g2:=hb.n.mul ha.d
 rw [Nat.add_comm] at g2
 unfold aG_p Rt
 rw [bM FU l m _ _ ha.n hb.d (by omega) (by omega),aa,bM FU m l _ _ hb.n ha.d (by omega) (by omega),aa]
 unfold cj_p
 rw [eR FU (l + m) _ _ (ha.n.mul hb.d) g2 (by omega) (by omega),aa,dB]
 rfl
theorem Fit.r {l:Nat} {z:Int} (h:Fit l z):FtR (2 * l) z:=by
 unfold FtR
 rw [jR]
 exact h
theorem kC {l m:Nat} {a b:Rat} (ha:RF l a) (hb:RF m b) (h:l + m < 4000):bs_p FU (RR a) (RR b) = some (RR (a + b)):=by
 have hF:=aA
 obtain ⟨f1,f2⟩:=pn ha hb
 have x1:=ha.n.r.mul hb.d.r
 have x2:=hb.n.r.mul ha.d.r
 have x3:=ha.d.r.mul hb.d.r
 rw [Nat.add_comm] at x2
 have e:=(iQ FU (2 * (l + m + 1)) _ _ (dd0 a b) f1.r f2.r (by omega) hF).1
 unfold bs_p RR
 simp only
 rw [bn FU _ _ _ _ ha.n.r hb.d.r (by omega) (by omega),aa,bn FU _ _ _ _ hb.n.r ha.d.r (by omega) (by omega),aa,ii FU _ _ _ x1 x2 (by omega) (by omega),aa,bn FU _ _ _ _ ha.d.r hb.d.r (by omega) (by omega),aa,e,aa,<- mD]
 rfl
theorem ef {l m:Nat} {a b:Rat} (ha:RF l a) (hb:RF m b) (h:l + m < 4000):aR_p FU (RR a) (RR b) = some (sgn a b):=by
 have hF:=aA
 have x2:=hb.n.r.mul ha.d.r
 rw [Nat.add_comm] at x2
 unfold aR_p
 rw [show (RR a).fN = R8 a.num from rfl,show (RR a).fD = R8 (a.den:Int) from rfl,show (RR b).fN = R8 b.num from rfl,show (RR b).fD = R8 (b.den:Int) from rfl,
  bn FU _ _ _ _ ha.n.r hb.d.r (by omega) (by omega),aa,bn FU _ _ _ _ hb.n.r ha.d.r (by omega) (by omega),aa,
  mX _ _ _ (ha.n.r.mul hb.d.r) x2 (by omega),aa]
 rfl
open Classical in
theorem pw (q:Rat):ae_p FU (Rt q) = some (if FQ q then (Sg q,0) else (noS,6)):=rtoldG FU q (by have:=aA; omega)
open Classical in
theorem na {l:Nat} {q:Rat} (h:RF l q) (hl:l < 4000):bq_p FU (RR q) = some (if FQ q then (Sg q,0) else (noS,6)):=cx FU (2 * l) q h.n.r h.d.r (by omega) (by have:=aA; omega)
end Go.Proofs.YtkommhmbkbhmlaaGreat
namespace Go.Proofs.YtkommhmbkbhmlaaGreat
open Go
set_option maxRecDepth 8000
theorem pj (t:T8):∃ z,Fw z/\t = Wg z:=by
 have h1:=pE t
 have h2:=dI
 by_cases h:val (wv t) < HB
 ·refine ⟨(val (wv t):Int),⟨by omega,by omega⟩,gx ?_⟩
  rw [Int.emod_eq_of_lt (by omega) (by omega)]
 ·refine ⟨(val (wv t):Int) - FB,⟨by omega,by omega⟩,gx ?_⟩
  rw [Int.sub_emod_right,Int.emod_eq_of_lt (by omega) (by omega)]
theorem gcd_fit {x y:Int} (hy:Fw y) (h0:0 < y):Fit 8 ((Nat.gcd x.natAbs y.natAbs:Nat):Int):=by
 refine Nat.lt_of_le_of_lt ?_ hy.fit
 rw [Int.natAbs_natCast]
 exact Nat.gcd_le_right _ (by omega)
theorem checkXY (x y:Int) (hx:Fw x) (hy:Fw y):bT_p FU ⟨Wg x,Wg y⟩ = some (if 0 < y/\Nat.gcd x.natAbs y.natAbs = 1 then 0 else 20):=by
 have hF:=aA
 have hr:am_p FU ⟨Wg x,Wg y⟩ = some ⟨L x,L y⟩:=by
  unfold am_p
  simp only
  rw [gH FU _ hx (by omega),aa,gH FU _ hy (by omega),aa]
 unfold bT_p
 rw [gL FU 1 (by unfold Sm; decide) (by omega),aa,hr,aa]
 simp only
 rw [dB,aa]
 by_cases h0:0 < y
 ·rw [Int.sign_eq_one_of_pos h0,if_neg (by decide),jQ FU 8 _ _ hx.fit hy.fit (by decide) hF,aa]
  unfold cj_p
  rw [eR FU 8 _ _ (gcd_fit hy h0) (by unfold Fit; decide) (by omega) (by decide),aa,dB,aa]
  by_cases hg:Nat.gcd x.natAbs y.natAbs = 1
  ·rw [aa,if_pos (show (((Nat.gcd x.natAbs y.natAbs:Nat):Int) - 1).sign = 0 from by rw [hg]; rfl),if_pos ⟨h0,hg⟩]
  ·have:(((Nat.gcd x.natAbs y.natAbs:Nat):Int) - 1).sign ≠ 0:=fun e=>by
    have:=Int.sign_eq_zero_iff_zero.1 e; omega
   rw [if_neg fun h=>hg h.2,aa,if_neg this]
 ·have hs:y.sign <= 0:=by
   rcases Int.lt_trichotomy y 0 with h | h | h
   ·rw [Int.sign_eq_neg_one_of_neg h]; decide
   ·rw [h]; decide
   ·omega
  rw [if_pos hs,if_neg fun h=>h0 h.1]
theorem bZ (s:Tb):(∃ q,FQ q/\s = Sg q) ∨ (bT_p FU s = some 20/\aI_p FU s = some false):=by
 obtain ⟨a,b⟩:=s
 obtain ⟨x,hx,rfl⟩:=pj a
 obtain ⟨y,hy,rfl⟩:=pj b
 have c1:=checkXY x y hx hy
 have c2:=jv FU x y hx hy aA
 by_cases h:0 < y/\Nat.gcd x.natAbs y.natAbs = 1
 ·refine .inl ?_
  obtain ⟨m,rfl⟩:∃ m:Nat,y = (m:Int):=⟨y.toNat,by omega⟩
  have hn:(Rat.mk' x m (by omega) h.2).num = x:=rfl
  exact ⟨Rat.mk' x m (by omega) h.2,⟨hx,hy⟩,rfl⟩
 ·rw [if_neg h] at c1
  rw [decide_eq_false h] at c2
  exact .inr ⟨c1,c2⟩
structure Gd (T:List (Rat × Rat)):Prop where
 fq:∀ e ∈ T,FQ e.1/\FQ e.2
 pos:∀ e ∈ T,0 < e.2
 up:Up T
def gn (xs:List Ta):Prop:=∃ T:List (Rat × Rat),xs = T.map ms/\Gd T
def Okm (xs:List Ta):Prop:=∃ T:List (Rat × Rat),xs = T.map ms/\Gd T/\sW T = 1/\0 < T.length
theorem Gd.snoc {T:List (Rat × Rat)} {e:Rat × Rat} (h:Gd T) (fe:FQ e.1/\FQ e.2) (pe:0 < e.2) (hl:∀ x ∈ T,x.1 < e.1):Gd (T ++ [e]):=by
 refine ⟨fun x hx=>?_,fun x hx=>?_,?_⟩
 ·rcases List.mem_append.1 hx with hx | hx
  ·exact h.fq x hx
  ·rw [List.mem_singleton.1 hx]; exact fe
 ·rcases List.mem_append.1 hx with hx | hx
  ·exact h.pos x hx
  ·rw [List.mem_singleton.1 hx]; exact pe
 ·unfold Up
  rw [List.pairwise_append]
  refine ⟨h.up,List.pairwise_singleton ..,fun a ha b hb=>?_⟩
  rw [List.mem_singleton.1 hb]
  exact Rat.not_le.2 (hl a ha)
theorem mT {T:List (Rat × Rat)} (h:Up T) {i:Nat} (hi:i + 1 = T.length) {x:Rat} (hx:(T[i]'(by omega)).1 < x):∀ y ∈ T,y.1 < x:=fun y hy=>by
 obtain ⟨j,hj,rfl⟩:=List.getElem_of_mem hy
 by_cases c:j = i
 ·subst c; exact hx
 ·have:=oK h (show i < T.length by omega) (show j < i by omega)
  grind
theorem iF {q:Rat} (h:FQ q):bT_p FU (Sg q) = some 0:=checkG FU q h aA
theorem check2 (xs:List Ta) (hn:xs.length <= 400):(gn xs/\am (av_l2 FU xs) FU 0 = some (.inr ())) ∨ (¬ gn xs/\am (av_l2 FU xs) FU 0 = some (.inl 50)):=by
 have hF:=aA
 have hh:=az (B:=av_l2 FU xs) (fun i:Nat=>xs.length - i) (fun i=>i <= xs.length/\gn (xs.take i)) (fun r=>(gn xs/\r = .inr ()) ∨ (¬ gn xs/\r = .inl 50)) ?_ FU 0 ⟨Nat.zero_le _,[],rfl,⟨by simp,by simp,List.Pairwise.nil⟩⟩ (by omega)
 ·obtain ⟨r,e,h | h⟩:=hh
  ·exact .inl ⟨h.1,by rw [e,h.2]⟩
  ·exact .inr ⟨h.1,by rw [e,h.2]⟩
 ·rintro i J ⟨hi,hg⟩ hJ
  unfold av_l2 jn
  simp only
  by_cases c:i < xs.length
  ·have hat:∀ T:List (Rat × Rat),xs = T.map ms -> ∃ h:i < T.length,xs[i] = ms T[i]:=fun T e=>by
    have hl:i < T.length:=by rw [e,List.length_map] at c; exact c
    exact ⟨hl,by simp only [e,List.getElem_map]⟩
   have bad:¬ gn xs -> ∃ r,some (Sum.inl 50) = some r/\((gn xs/\r = .inr ()) ∨ (¬ gn xs/\r = (.inl 50:Int ⊕ Unit))):=fun h=>⟨_,rfl,.inr ⟨h,rfl⟩⟩
   rw [if_pos c,geE c,aa]
   rcases bZ xs[i].fm with ⟨q,fq,eq⟩ | ⟨e1,_⟩
   ·rw [eq,iF fq,aa,if_pos rfl]
    rcases bZ xs[i].fP with ⟨p,fp,ep⟩ | ⟨e1,_⟩
    ·have em:xs[i] = ms (q,p):=by
      rw [show xs[i] = ⟨xs[i].fm,xs[i].fP⟩ from rfl,eq,ep]; rfl
     have hT:∀ T:List (Rat × Rat),xs = T.map ms -> Gd T -> ∃ h:i < T.length,T[i] = (q,p):=fun T e g=>by
      obtain ⟨h,e2⟩:=hat T e
      rw [em] at e2
      exact ⟨h,((gg ⟨fq,fp⟩ (g.fq _ (List.getElem_mem h))).1 e2).symm⟩
     rw [ep,iF fp,aa,if_pos rfl,em,pG (e:=(q,p)) fp,aa,show (Rt (q,p).2).fj = Go.Proofs.YtkommhmbkbhmlaaGreat.L p.num from rfl,dB,aa]
     by_cases cp:0 < p
     ·rw [if_neg (by rw [Int.sign_eq_one_of_pos (numpos cp)]; decide)]
      have next:(∃ T:List (Rat × Rat),xs.take i = T.map ms/\Gd T/\∀ x ∈ T,x.1 < q) -> gn (xs.take (i + 1)):=fun ⟨T,e,g,hl⟩=>by
       refine ⟨T ++ [(q,p)],?_,g.snoc ⟨fq,fp⟩ cp hl⟩
       rw [List.take_succ_eq_append_getElem c,e,em,List.map_append]; rfl
      obtain ⟨T,e,g⟩:=hg
      have hlen:T.length = i:=by
       have:=congrArg List.length e
       rw [List.length_take,List.length_map] at this
       omega
      by_cases c0:0 < i
      ·have hi1:i - 1 < T.length:=by omega
       have e3:xs[i - 1]? = some (ms T[i - 1]):=by
        have h1:(xs.take i)[i - 1]? = xs[i - 1]?:=List.getElem?_take_of_lt (by omega)
        rw [<- h1,e,List.getElem?_map,geE hi1]; rfl
       have f1:=(g.fq _ (List.getElem_mem hi1)).1
       rw [if_pos c0,e3,aa,show (ms T[i - 1]).fm = Sg T[i - 1].1 from rfl,gb FU _ f1 (by omega),aa,gb FU _ fq (by omega),aa,rcmpG f1 fq,aa]
       by_cases cl:T[i - 1].1 < q
       ·have hs:=eS.2 cl
        rw [if_neg (by rw [decide_eq_true_iff]; omega)]
        exact hJ (i + 1) ⟨c,next ⟨T,e,g,mT g.up (show i - 1 + 1 = T.length by omega) cl⟩⟩ (by omega)
       ·rw [if_pos (by rw [decide_eq_true_iff]; exact Int.not_lt.1 fun hc=>cl (eS.1 hc))]
        refine bad fun ⟨U,eU,gU⟩=>cl ?_
        obtain ⟨h,e4⟩:=hT U eU gU
        have hu:=oK gU.up h (show i - 1 < i by omega)
        have e5:U[i - 1]'(by omega) = T[i - 1]:=by
         have h1:xs[i - 1]? = some (ms (U[i - 1]'(by omega))):=by
          rw [eU,List.getElem?_map,geE (by omega)]; rfl
         rw [e3] at h1
         injection h1 with h1
         exact ((gg (g.fq _ (List.getElem_mem hi1)) (gU.fq _ (List.getElem_mem _))).1 h1).symm
        rw [e5,e4] at hu
        exact hu
      ·rw [if_neg c0,if_neg (by decide)]
       refine hJ (i + 1) ⟨c,next ⟨T,e,g,fun x hx=>?_⟩⟩ (by omega)
       rw [List.eq_nil_of_length_eq_zero (show T.length = 0 by omega)] at hx
       cases hx
     ·have hs:p.num.sign <= 0:=by
       rcases Int.lt_trichotomy p.num 0 with h | h | h
       ·rw [Int.sign_eq_neg_one_of_neg h]; decide
       ·rw [h]; decide
       ·exact absurd (numpos2 h) cp
      rw [if_pos hs,if_pos trivial]
      refine bad fun ⟨U,eU,gU⟩=>cp ?_
      obtain ⟨h,e4⟩:=hT U eU gU
      have:=gU.pos _ (List.getElem_mem h)
      rwa [e4] at this
    ·rw [e1,aa,if_neg (by decide),if_pos trivial]
     refine bad fun ⟨U,eU,gU⟩=>?_
     obtain ⟨h,e4⟩:=hat U eU
     rw [e4,show (ms U[i]).fP = Sg U[i].2 from rfl,iF (gU.fq _ (List.getElem_mem h)).2] at e1
     cases e1
   ·rw [e1,aa,if_neg (by decide),if_pos trivial]
    refine bad fun ⟨U,eU,gU⟩=>?_
    obtain ⟨h,e4⟩:=hat U eU
    rw [e4,show (ms U[i]).fm = Sg U[i].1 from rfl,iF (gU.fq _ (List.getElem_mem h)).1] at e1
    cases e1
  ·rw [if_neg c]
   refine ⟨_,rfl,.inl ⟨?_,rfl⟩⟩
   rwa [List.take_of_length_le (by omega)] at hg
end Go.Proofs.YtkommhmbkbhmlaaGreat
namespace Go.Proofs.YtkommhmbkbhmlaaGreat
open Go
set_option maxRecDepth 8000
theorem im {T:List (Rat × Rat)} (h:∀ e ∈ T,FQ e.1/\FQ e.2) (hn:T.length <= 60):∀ i,i <= T.length -> RF (9 * i + 8) (sW (T.take i))
 | 0,_=>FQ0.rf
 | i + 1,hi=>by
  have ih:=im h hn i (by omega)
  have hp:=(mn ih (h _ (List.getElem_mem (show i < T.length by omega))).2.rf (by omega)).2
  rw [mQ (by omega)]
  exact hp.mono (by omega)
theorem check1 {T:List (Rat × Rat)} (h:∀ e ∈ T,FQ e.1/\FQ e.2) (hn:T.length <= 60):am (av_l1 FU (T.map ms)) FU (0,md 0) = some (md (sW T)):=by
 have hF:=aA
 have hh:=az (B:=av_l1 FU (T.map ms)) (fun s=>T.length - s.1) (fun s=>∃ i,i <= T.length/\s = (i,md (sW (T.take i)))) (fun r=>r = md (sW T)) ?_ FU (0,md 0) ⟨0,Nat.zero_le _,rfl⟩ (by simp only; omega)
 ·obtain ⟨r,e,rfl⟩:=hh
  exact e
 ·rintro s J ⟨i,hi,rfl⟩ hJ
  unfold av_l1 md
  simp only
  by_cases c:i < T.length
  ·have f:=h _ (List.getElem_mem c)
   rw [if_pos (by simpa using c),geE (by simpa using c),aa,List.getElem_map,pG f.2,aa]
   rw [show (⟨⟨(Rt (sW (T.take i))).fj.fc,(Rt (sW (T.take i))).fj.fk⟩,⟨(Rt (sW (T.take i))).fh.fc,(Rt (sW (T.take i))).fh.fk⟩⟩:Tc) = Rt (sW (T.take i)) from rfl,(mn (im h hn i hi) f.2.rf (by omega)).1,aa,<- mQ c]
   exact hJ _ ⟨i + 1,c,rfl⟩ (by simp only; omega)
  ·rw [if_neg (by simpa using c)]
   refine ⟨_,rfl,?_⟩
   rw [List.take_of_length_le (by omega)]
open Classical in
theorem iV (xs:List Ta) (hn:xs.length <= 60):av_p FU xs = some (if Okm xs then 0 else 50):=by
 have hF:=aA
 unfold av_p
 by_cases h0:xs.length < 1
 ·rw [if_pos h0,if_neg]
  rintro ⟨T,rfl,_,_,hT⟩
  rw [List.length_map] at h0
  omega
 ·rw [if_neg h0,if_neg (by omega)]
  rcases check2 xs (by omega) with ⟨⟨T,rfl,g⟩,e⟩ | ⟨hb,e⟩
  ·rw [List.length_map] at hn h0
   have hs:=im g.fq hn T.length (Nat.le_refl _)
   rw [List.take_length] at hs
   rw [e]
   show ((aD_p FU 0).bind fun y303=>Option.bind (am (av_l1 FU (T.map ms)) FU (0,y303.fj.fc,y303.fj.fk,y303.fh.fc,y303.fh.fk)) _) = _
   rw [from0,aa]
   show Option.bind (am (av_l1 FU (T.map ms)) FU (0,md 0)) _ = _
   rw [check1 g.fq hn,aa]
   show ((aD_p FU 1).bind fun y506=>(aG_p FU (Rt (sW T)) y506).bind fun y516=>if y516 = 0 then some 0 else some 50) = _
   rw [from1,aa,rcmpH hs FQ1.rf (by omega),aa]
   by_cases c:sW T = 1
   ·rw [if_pos (cg.2 c),if_pos ⟨T,rfl,g,c,by omega⟩]
   ·rw [if_neg fun hc=>c (cg.1 hc),if_neg]
    rintro ⟨U,eU,gU,hU,_⟩
    have:T = U:=by
     have hl:=congrArg List.length eU
     rw [List.length_map,List.length_map] at hl
     refine List.ext_getElem hl fun i h1 h2=>?_
     have h3:(T.map ms)[i]? = (U.map ms)[i]?:=by rw [eU]
     rw [List.getElem?_map,List.getElem?_map,geE h1,geE h2] at h3
     injection h3 with h3
     exact (gg (g.fq _ (List.getElem_mem h1)) (gU.fq _ (List.getElem_mem h2))).1 h3
    rw [this] at c
    exact c hU
  ·rw [e,if_neg fun ⟨T,e1,g,_⟩=>hb ⟨T,e1,g⟩]
   rfl
end Go.Proofs.YtkommhmbkbhmlaaGreat
namespace Go.Proofs.YtkommhmbkbhmlaaGreat
open Go
set_option maxRecDepth 8000
def fS (q:Rat):Bool × List Int × Bool × List Int:=((RR q).fN.fc,(RR q).fN.fD,(RR q).fD.fc,(RR q).fD.fD)
theorem zeroR:bO_p FU = some (RR 0):=by
 unfold bO_p
 rw [gj (by unfold Sm; decide) (by unfold Sm; decide) (by decide),aa]; rfl
theorem oneR:bW_p FU = some (RR 1):=by
 unfold bW_p
 rw [gj (by unfold Sm; decide) (by unfold Sm; decide) (by decide),aa]; rfl
theorem gw {q:Rat} (h:FQ q):aI_p FU (Sg q) = some true:=gA FU q h aA
theorem inS {q:Rat} (h:FQ q):bg_p FU (Sg q) = some (RR q):=kD FU q h (by have:=aA; omega)
theorem right1 (xs:List Ta) (hn:xs.length <= 60):(∃ T:List (Rat × Rat),xs = T.map ms/\Gd T/\am (aS_l1 FU xs) FU (0,fS 0) = some (.inr (fS (sW T)))) ∨ (¬ gn xs/\am (aS_l1 FU xs) FU (0,fS 0) = some (.inl false)):=by
 have hF:=aA
 have hh:=az (B:=aS_l1 FU xs) (fun s=>xs.length - s.1) (fun s=>s.1 <= xs.length/\∃ T:List (Rat × Rat),xs.take s.1 = T.map ms/\Gd T/\s.2 = fS (sW T)) (fun r=>(∃ T:List (Rat × Rat),xs = T.map ms/\Gd T/\r = .inr (fS (sW T))) ∨ (¬ gn xs/\r = .inl false)) ?_ FU (0,fS 0) ⟨Nat.zero_le _,[],rfl,⟨by simp,by simp,List.Pairwise.nil⟩,rfl⟩ (by simp only; omega)
 ·obtain ⟨r,e,⟨T,h1,h2,h3⟩ | h⟩:=hh
  ·exact .inl ⟨T,h1,h2,by rw [e,h3]⟩
  ·exact .inr ⟨h.1,by rw [e,h.2]⟩
 ·rintro ⟨i,s⟩ J ⟨hi,T,e,g,hs⟩ hJ
  simp only at hi e hs hJ
  subst hs
  unfold aS_l1 fS
  simp only
  by_cases c:i < xs.length
  ·have hat:∀ U:List (Rat × Rat),xs = U.map ms -> ∃ h:i < U.length,xs[i] = ms U[i]:=fun U eU=>by
    have hl:i < U.length:=by rw [eU,List.length_map] at c; exact c
    exact ⟨hl,by simp only [eU,List.getElem_map]⟩
   have bad:¬ gn xs -> ∃ r,some (Sum.inl false) = some r/\((∃ T:List (Rat × Rat),xs = T.map ms/\Gd T/\r = .inr (fS (sW T))) ∨ (¬ gn xs/\r = (.inl false:Bool ⊕ (Bool × List Int × Bool × List Int)))):=fun h=>⟨_,rfl,.inr ⟨h,rfl⟩⟩
   have hlen:T.length = i:=by
    have:=congrArg List.length e
    rw [List.length_take,List.length_map] at this
    omega
   rw [if_pos c,geE c,aa]
   rcases bZ xs[i].fm with ⟨q,fq,eq⟩ | ⟨e0,e1⟩
   ·rw [eq,gw fq,aa,if_pos rfl]
    rcases bZ xs[i].fP with ⟨p,fp,ep⟩ | ⟨e0,e1⟩
    ·have em:xs[i] = ms (q,p):=by
      rw [show xs[i] = ⟨xs[i].fm,xs[i].fP⟩ from rfl,eq,ep]; rfl
     have hT:∀ U:List (Rat × Rat),xs = U.map ms -> Gd U -> ∃ h:i < U.length,U[i] = (q,p):=fun U eU g=>by
      obtain ⟨h,e2⟩:=hat U eU
      rw [em] at e2
      exact ⟨h,((gg ⟨fq,fp⟩ (g.fq _ (List.getElem_mem h))).1 e2).symm⟩
     rw [ep,gw fp,aa,if_pos rfl,inS fp,aa,zeroR,aa,ef fp.rf FQ0.rf (by omega),aa]
     by_cases cp:0 < p
     ·rw [if_neg (by have:=eC.2 cp; omega)]
      have next:(∀ x ∈ T,x.1 < q) -> ∃ U:List (Rat × Rat),xs.take (i + 1) = U.map ms/\Gd U/\fS (sW T + p) = fS (sW U):=fun hl=>by
       refine ⟨T ++ [(q,p)],?_,g.snoc ⟨fq,fp⟩ cp hl,?_⟩
       ·rw [List.take_succ_eq_append_getElem c,e,em,List.map_append]; rfl
       ·rw [lY,show sW [(q,p)] = p + 0 from rfl,Rat.add_zero]
      have hr:=im g.fq (by omega) T.length (Nat.le_refl _)
      rw [List.take_length] at hr
      have hp:=kC hr fp.rf (by omega)
      by_cases c0:0 < i
      ·have hi1:i - 1 < T.length:=by omega
       have e3:xs[i - 1]? = some (ms T[i - 1]):=by
        have h1:(xs.take i)[i - 1]? = xs[i - 1]?:=List.getElem?_take_of_lt (by omega)
        rw [<- h1,e,List.getElem?_map,geE hi1]; rfl
       have f1:=(g.fq _ (List.getElem_mem hi1)).1
       rw [if_pos c0,e3,aa,show (ms T[i - 1]).fm = Sg T[i - 1].1 from rfl,inS f1,aa,inS fq,aa,ef f1.rf fq.rf (by omega),aa]
       by_cases cl:T[i - 1].1 < q
       ·have hs:=eS.2 cl
        rw [if_neg (by omega)]
        rw [show (⟨⟨(RR (sW T)).fN.fc,(RR (sW T)).fN.fD⟩,⟨(RR (sW T)).fD.fc,(RR (sW T)).fD.fD⟩⟩:Tg) = RR (sW T) from rfl,hp,aa]
        exact hJ (i + 1,fS (sW T + p)) ⟨c,next (mT g.up (show i - 1 + 1 = T.length by omega) cl)⟩ (by simp only; omega)
       ·rw [if_pos (Int.not_lt.1 fun hc=>cl (eS.1 hc))]
        refine bad fun ⟨U,eU,gU⟩=>cl ?_
        obtain ⟨h,e4⟩:=hT U eU gU
        have hu:=oK gU.up h (show i - 1 < i by omega)
        have e5:U[i - 1]'(by omega) = T[i - 1]:=by
         have h1:xs[i - 1]? = some (ms (U[i - 1]'(by omega))):=by
          rw [eU,List.getElem?_map,geE (by omega)]; rfl
         rw [e3] at h1
         injection h1 with h1
         exact ((gg (g.fq _ (List.getElem_mem hi1)) (gU.fq _ (List.getElem_mem _))).1 h1).symm
        rw [e5,e4] at hu
        exact hu
      ·rw [if_neg c0]
       rw [show (⟨⟨(RR (sW T)).fN.fc,(RR (sW T)).fN.fD⟩,⟨(RR (sW T)).fD.fc,(RR (sW T)).fD.fD⟩⟩:Tg) = RR (sW T) from rfl,hp,aa]
       refine hJ (i + 1,fS (sW T + p)) ⟨c,next fun x hx=>?_⟩ (by simp only; omega)
       rw [List.eq_nil_of_length_eq_zero (show T.length = 0 by omega)] at hx
       cases hx
     ·rw [if_pos (Int.not_lt.1 fun hc=>cp (eC.1 hc))]
      refine bad fun ⟨U,eU,gU⟩=>cp ?_
      obtain ⟨h,e4⟩:=hT U eU gU
      have:=gU.pos _ (List.getElem_mem h)
      rwa [e4] at this
    ·rw [e1,aa,if_neg (by decide)]
     refine bad fun ⟨U,eU,gU⟩=>?_
     obtain ⟨h,e4⟩:=hat U eU
     rw [e4,show (ms U[i]).fP = Sg U[i].2 from rfl,gw (gU.fq _ (List.getElem_mem h)).2] at e1
     cases e1
   ·rw [e1,aa,if_neg (by decide)]
    refine bad fun ⟨U,eU,gU⟩=>?_
    obtain ⟨h,e4⟩:=hat U eU
    rw [e4,show (ms U[i]).fm = Sg U[i].1 from rfl,gw (gU.fq _ (List.getElem_mem h)).1] at e1
    cases e1
  ·rw [if_neg c]
   refine ⟨_,rfl,.inl ⟨T,?_,g,rfl⟩⟩
   rwa [List.take_of_length_le (by omega)] at e
theorem map_ms {T U:List (Rat × Rat)} (hT:∀ e ∈ T,FQ e.1/\FQ e.2) (hU:∀ e ∈ U,FQ e.1/\FQ e.2) (e:T.map ms = U.map ms):T = U:=by
 have hl:=congrArg List.length e
 rw [List.length_map,List.length_map] at hl
 refine List.ext_getElem hl fun i h1 h2=>?_
 have h3:(T.map ms)[i]? = (U.map ms)[i]?:=by rw [e]
 rw [List.getElem?_map,List.getElem?_map,geE h1,geE h2] at h3
 injection h3 with h3
 exact (gg (hT _ (List.getElem_mem h1)) (hU _ (List.getElem_mem h2))).1 h3
theorem thnr {α β:Type} {K:β -> Option α} {x:β}:thn (some (Sum.inr x)) K = K x:=rfl
open Classical in
theorem oS (xs:List Ta) (hn:xs.length <= 60):aS_p FU xs = some (decide (Okm xs)):=by
 have hF:=aA
 unfold aS_p
 by_cases h0:xs.length < 1
 ·rw [if_pos h0,decide_eq_false]
  rintro ⟨T,rfl,_,_,hT⟩
  rw [List.length_map] at h0
  omega
 ·rw [if_neg h0,if_neg (by omega),zeroR,aa]
  show thn (am (aS_l1 FU xs) FU (0,fS 0)) _ = _
  rcases right1 xs hn with ⟨T,e1,g,e⟩ | ⟨hb,e⟩
  ·subst e1
   rw [List.length_map] at hn h0
   have hs:=im g.fq hn T.length (Nat.le_refl _)
   rw [List.take_length] at hs
   rw [e,thnr]
   unfold fS
   dsimp only
   rw [show (⟨⟨(RR (sW T)).fN.fc,(RR (sW T)).fN.fD⟩,⟨(RR (sW T)).fD.fc,(RR (sW T)).fD.fD⟩⟩:Tg) = RR (sW T) from rfl]
   rw [oneR,aa,ef hs FQ1.rf (by omega),aa]
   congr 1
   refine decide_eq_decide.2 ⟨fun h=>⟨T,rfl,g,cg.1 h,by omega⟩,fun ⟨U,eU,gU,hU,_⟩=>?_⟩
   rw [map_ms g.fq gU.fq eU]
   exact cg.2 hU
  ·rw [e,decide_eq_false fun ⟨T,e1,g,_⟩=>hb ⟨T,e1,g⟩]
   rfl
end Go.Proofs.YtkommhmbkbhmlaaGreat
namespace Go.Proofs.YtkommhmbkbhmlaaGreat
open Go
set_option maxRecDepth 8000
theorem fF {σ R:Type} (l:List σ) (P:σ -> Prop) (v:R) (B:(Nat -> Option (R ⊕ Unit)) -> Nat -> Option (R ⊕ Unit)) (hl:l.length < 1000)
  (h0:∀ J i,¬ i < l.length -> B J i = some (.inr ())) (h1:∀ J i (c:i < l.length),P l[i] -> B J i = J (i + 1)) (h2:∀ J i (c:i < l.length),¬ P l[i] -> B J i = some (.inl v)) :
  ((∀ s ∈ l,P s)/\am B FU 0 = some (.inr ())) ∨ (¬ (∀ s ∈ l,P s)/\am B FU 0 = some (.inl v)):=by
 have hF:=aA
 have hh:=az (B:=B) (fun i:Nat=>l.length - i) (fun i=>i <= l.length/\∀ s ∈ l.take i,P s) (fun r=>((∀ s ∈ l,P s)/\r = .inr ()) ∨ (¬ (∀ s ∈ l,P s)/\r = .inl v)) ?_ FU 0 ⟨Nat.zero_le _,fun s hs=>by cases hs⟩ (by omega)
 ·obtain ⟨r,e,h | h⟩:=hh
  ·exact .inl ⟨h.1,by rw [e,h.2]⟩
  ·exact .inr ⟨h.1,by rw [e,h.2]⟩
 ·rintro i J ⟨hi,hp⟩ hJ
  by_cases c:i < l.length
  ·by_cases hq:P l[i]
   ·rw [h1 J i c hq]
    refine hJ (i + 1) ⟨c,fun s hs=>?_⟩ (by omega)
    rw [List.take_succ_eq_append_getElem c] at hs
    rcases List.mem_append.1 hs with hs | hs
    ·exact hp s hs
    ·rw [List.mem_singleton.1 hs]; exact hq
   ·rw [h2 J i c hq]
    exact ⟨_,rfl,.inr ⟨fun hc=>hq (hc _ (List.getElem_mem c)),rfl⟩⟩
  ·rw [h0 J i c]
   refine ⟨_,rfl,.inl ⟨?_,rfl⟩⟩
   rwa [List.take_of_length_le (by omega)] at hp
theorem ky (xs:List Ta) (h:xs.length < 1000):ai_p FU xs xs = some true:=by
 unfold ai_p
 rw [if_pos rfl]
 rcases fF xs (fun _=>True) false (ai_l1 FU xs xs) h (fun J i c=>by unfold ai_l1; exact if_neg c)
  (fun J i c _=>by unfold ai_l1; simp only; rw [if_pos c,geE c,aa,aa,if_pos rfl]) (fun J i c hc=>absurd trivial hc) with ⟨_,e⟩ | ⟨hc,_⟩
 ·rw [e]; rfl
 ·exact absurd (fun _ _=>trivial) hc
def Oks (X:List (List Ta)):Prop:=∀ x ∈ X,Okm x
def Shs (w:List Tb):Prop:=∀ s ∈ w,∃ q,FQ q/\s = Sg q
theorem gk {s:Tb} (h:¬ ∃ q,FQ q/\s = Sg q):bT_p FU s = some 20/\aI_p FU s = some false:=(bZ s).resolve_left h
theorem nB (w:List Tb) (hw:w.length <= 40):(Shs w/\am (ar_l2 FU w) FU 0 = some (.inr ())) ∨ (¬ Shs w/\am (ar_l2 FU w) FU 0 = some (.inl 20)):=by
 refine fF w (fun s=>∃ q,FQ q/\s = Sg q) 20 _ (by omega) (fun J i c=>?_) (fun J i c=>?_) fun J i c h=>?_
 ·unfold ar_l2
  exact if_neg c
 ·rintro ⟨q,fq,e⟩
  unfold ar_l2 ct_p
  simp only
  rw [if_pos c,geE c,aa,e,iF fq]
  rfl
 ·unfold ar_l2 ct_p
  simp only
  rw [if_pos c,geE c,aa,(gk h).1,aa,aa,if_pos (by decide),if_pos (by omega)]
  rfl
open Classical in
theorem kz (X:List (List Ta)) (w:List Tb) (hX:X.length <= 40) (hx:∀ x ∈ X,x.length <= 60) (hw:w.length <= 40):ar_p FU X w = some (if Oks X then if Shs w then 0 else 20 else 50):=by
 unfold ar_p
 rcases fF X (fun x=>Okm x) 50 (ar_l3 FU X w) (by omega) (fun J i c=>by unfold ar_l3; exact if_neg c)
  (fun J i c h=>by
   unfold ar_l3 cI_p
   simp only
   rw [if_pos c,geE c,aa,iV _ (hx _ (List.getElem_mem c)),if_pos h]
   rfl)
  (fun J i c h=>by
   unfold ar_l3 cI_p
   simp only
   rw [if_pos c,geE c,aa,iV _ (hx _ (List.getElem_mem c)),if_neg h,aa,aa,if_pos (by decide),if_pos (by omega)]
   rfl) with ⟨h,e⟩ | ⟨h,e⟩
 ·rw [e,if_pos (show Oks X from h)]
  show (if (0:Int) <= -1 then some (50:Int) else _) = _
  rw [if_neg (by decide)]
  rcases nB w hw with ⟨k,e2⟩ | ⟨k,e2⟩
  ·rw [e2,if_pos k]; rfl
  ·rw [e2,if_neg k]; rfl
 ·rw [e,if_neg (show ¬ Oks X from h)]; rfl
open Classical in
theorem nb (w:List Tb) (hw:w.length <= 40):aF_p FU w = some (decide (Shs w)):=by
 unfold aF_p
 rcases fF w (fun s=>∃ q,FQ q/\s = Sg q) false (aF_l1 FU w) (by omega) (fun J i c=>by unfold aF_l1; exact if_neg c)
  (fun J i c h=>by
   obtain ⟨q,fq,e⟩:=h
   unfold aF_l1
   simp only
   rw [if_pos c,geE c,aa,e,gw fq,aa,if_pos rfl])
  (fun J i c h=>by
   unfold aF_l1
   simp only
   rw [if_pos c,geE c,aa,(gk h).2,aa,if_neg (by decide)]) with ⟨h,e⟩ | ⟨h,e⟩
 ·rw [e,decide_eq_true (show Shs w from h)]; rfl
 ·rw [e,decide_eq_false (show ¬ Shs w from h)]; rfl
theorem Shs.lists:∀ {w:List Tb},Shs w -> ∃ ws:List Rat,w = ws.map Sg/\∀ q ∈ ws,FQ q
 | [],_=>⟨[],rfl,fun q hq=>by cases hq⟩
 | s :: w,h=>by
  obtain ⟨q,fq,e⟩:=h s (List.mem_cons_self ..)
  obtain ⟨ws,e2,f⟩:=Shs.lists (w:=w) fun t ht=>h t (List.mem_cons_of_mem _ ht)
  refine ⟨q :: ws,by rw [e,e2]; rfl,fun p hp=>?_⟩
  rcases List.mem_cons.1 hp with rfl | hp
  ·exact fq
  ·exact f p hp
end Go.Proofs.YtkommhmbkbhmlaaGreat
namespace Go.Proofs.YtkommhmbkbhmlaaGreat
open Go
set_option maxRecDepth 8000
theorem wt_rf {m:Nat} (x:Rat):∀ {W:List (Rat × Rat)},(∀ e ∈ W,RF m e.2) -> (m + 1) * W.length + m + 8 < 4000 -> RF ((m + 1) * W.length + 8) (wt x W)
 | [],_,_=>FQ0.rf
 | e :: l,h,hl=>by
  have e1:(m + 1) * (l.length + 1) = (m + 1) * l.length + (m + 1):=Nat.mul_succ ..
  rw [leC,e1] at hl ⊢
  have ih:=wt_rf x (W:=l) (fun d hd=>h d (List.mem_cons_of_mem _ hd)) (by omega)
  show RF _ ((if e.1 = x then e.2 else 0) + wt x l)
  split
  ·exact (mn (h e (List.mem_cons_self ..)) ih (by omega)).2.mono (by omega)
  ·rw [Rat.zero_add]
   exact ih.mono (by omega)
structure Wh (k m b:Nat) (W:List (Rat × Rat)):Prop where
 key:∀ e ∈ W,RF k e.1
 wts:∀ e ∈ W,RF m e.2
 bnd:(m + 1) * W.length + 8 <= b
 lim:m + b < 4000
 len:W.length <= 100
theorem Wh.gat {k m b:Nat} {W A B D:List (Rat × Rat)} (h:Wh k m b W) (e:W = A ++ B) (g:Gat A D):∀ d ∈ D,RF k d.1/\RF b d.2:=fun d hd=>by
 obtain ⟨h1,h2⟩:=(g.mem d).1 hd
 have hl:(m + 1) * A.length <= (m + 1) * W.length:=Nat.mul_le_mul_left _ (by rw [e,List.length_append]; omega)
 have h3:=h.bnd
 have h4:=h.lim
 refine ⟨?_,?_⟩
 ·obtain ⟨a,ha,e1⟩:=List.mem_map.1 h1
  rw [<- e1]
  exact h.key a (by rw [e]; exact List.mem_append_left _ ha)
 ·rw [h2]
  exact (wt_rf d.1 (fun a ha=>h.wts a (by rw [e]; exact List.mem_append_left _ ha)) (by omega)).mono (by omega)
theorem Gat.fq {A D:List (Rat × Rat)} (g:Gat A D) (h:∀ e ∈ A,FQ e.1):∀ d ∈ D,FQ d.1:=fun d hd=>by
 obtain ⟨h1,_⟩:=(g.mem d).1 hd
 obtain ⟨a,ha,e1⟩:=List.mem_map.1 h1
 rw [<- e1]
 exact h a ha
theorem pcaseH {β:Type} {D:List (Rat × Rat)} {x p:Rat} {m b:Nat} (hx:FQ x) (hp:RF m p) (h1:∀ e ∈ D,FQ e.1) (hD:∀ e ∈ D,RF b e.2) (hl:m + b < 4000) (J:List (Tb × Tc) -> Option β) :
  dO (bz (D.map mk2) (Sg x)) (J (aC (D.map mk2) (Sg x) (Rt p))) (fun y=>(aa_p FU (Rt p) y).bind fun z=>J (aC (D.map mk2) (Sg x) z)) = J ((jO D (x,p)).map mk2):=by
 rw [mS hx h1]
 unfold jO
 simp only
 cases hm:bz D x with
 | none=>
  show J _ = _
  rw [kk hx _ h1]
 | some o=>
  show ((aa_p FU (Rt p) (Rt o)).bind fun z=>J (aC (D.map mk2) (Sg x) z)) = _
  rw [(mn hp (hD _ (iS hm)) hl).1,aa,kk hx _ h1]
open Classical in
theorem gatherH {X:List Ta × Bool -> Option (List Ta × Int)} {B:Tb × Tc -> (List Ta × Bool -> Option (List Ta × Int)) -> List Ta × Bool -> Option (List Ta × Int)}
  (hX:∀ xs q,X (xs,q) = if q = true then some (([]:List Ta),(6:Int)) else ((bA_p FU (ac ((xs.length:Nat):Int))).bind fun y=>(dP (fun x9 y9=>ah_p FU x9 y9) y xs).bind fun z=>some (z,(0:Int))))
  (hB:∀ e J xs q,B e J (xs,q) = ((ae_p FU e.2).bind fun y861=>jn (fun q876=>(app xs ([(⟨e.1,y861.1⟩:Ta)]:List Ta)).bind fun xs888=>J (xs888,q876)) (fun J880=>(if y861.2 = 0 then J880 q else J880 true))))
  {D U:List (Rat × Rat)} (q0:Bool) (hf:∀ e ∈ D,FQ e.1) (hn:(D.map (·.1)).Nodup) (hu:Up U) (hp:U.Perm D) (hl:D.length < 420) :
  mloop X B FU (D.map mk2) ([],q0) = some (if q0 = false/\∀ e ∈ D,FQ e.2 then (U.map ms,0) else ([],6)):=by
 have hF:=aA
 let cv:Tb × Tc -> Ta:=fun e=>⟨e.1,((ae_p FU e.2).getD (noS,0)).1⟩
 let bd:Tb × Tc -> Bool:=fun e=>decide (((ae_p FU e.2).getD (noS,0)).2 ≠ 0)
 have hcv:∀ e:Rat × Rat,FQ e.2 -> cv (mk2 e) = ms e:=fun e he=>by
  show (⟨Sg e.1,((ae_p FU (Rt e.2)).getD (noS,0)).1⟩:Ta) = _
  rw [pw,if_pos he]; rfl
 have hbd:∀ e:Rat × Rat,bd (mk2 e) = decide (¬ FQ e.2):=fun e=>by
  show decide (((ae_p FU (Rt e.2)).getD (noS,0)).2 ≠ 0) = _
  rw [pw]
  by_cases c:FQ e.2
  ·rw [if_pos c,decide_eq_false (not_not_intro c)]; rfl
  ·rw [if_neg c,decide_eq_true c]; rfl
 refine ij (D:=D.map mk2) (fun s e=>(s.1 ++ [cv e],s.2 || bd e)) (fun k s=>s.1.length + k <= 1000) _ ?_ FU (D.map mk2) ([],q0) (by rw [List.length_map]; omega) (fun e he=>he) (by rw [List.length_map]; show 0 + _ <= _; omega) fun l' hl' =>?_
 ·rintro k e J ⟨xs,q⟩ h2 he
  simp only at h2
  obtain ⟨d,hd,rfl⟩:=List.mem_map.1 he
  refine ⟨?_,by simp only [List.length_append,leC,leN]; omega⟩
  have e1:ae_p FU (mk2 d).2 = some ((cv (mk2 d)).fP,if FQ d.2 then 0 else 6):=by
   show ae_p FU (Rt d.2) = some (((ae_p FU (Rt d.2)).getD (noS,0)).1,_)
   rw [pw]
   by_cases c:FQ d.2
   ·rw [if_pos c,if_pos c]; rfl
   ·rw [if_neg c,if_neg c]; rfl
  rw [hB,e1,aa]
  have e2:∀ q', (app xs ([(⟨(mk2 d).1,(cv (mk2 d)).fP⟩:Ta)]:List Ta)).bind (fun xs888=>J (xs888,q')) = J (xs ++ [cv (mk2 d)],q'):=fun q' =>by
   rw [bq _ _ (by simp only [leC,leN]; omega),aa]
  unfold jn
  simp only
  by_cases c:FQ d.2
  ·rw [if_pos (by rw [if_pos c]),e2,hbd,decide_eq_false (not_not_intro c),Bool.or_false]
  ·rw [if_neg (by rw [if_neg c]; decide),e2,hbd,decide_eq_true c,Bool.or_true]
 ·have hfold:∀ (l:List (Tb × Tc)) (xs:List Ta) (q:Bool),l.foldl (fun s e=>(s.1 ++ [cv e],s.2 || bd e)) (xs,q) = (xs ++ l.map cv,q || l.any bd):=by
   intro l
   induction l with
   | nil=>intro xs q; simp
   | cons e l ih=>intro xs q; rw [List.foldl_cons,ih]; simp [Bool.or_assoc]
  have hany:l'.any bd = (D.map mk2).any bd:=by
   rw [Bool.eq_iff_iff,List.any_eq_true,List.any_eq_true]
   exact ⟨fun ⟨x,h1,h2⟩=>⟨x,hl'.mem_iff.1 h1,h2⟩,fun ⟨x,h1,h2⟩=>⟨x,hl'.mem_iff.2 h1,h2⟩⟩
  rw [hfold,hX,hany]
  by_cases c:q0 = false/\∀ e ∈ D,FQ e.2
  ·have:(D.map mk2).any bd = false:=by
    rw [Bool.eq_false_iff]
    intro hc
    obtain ⟨x,h1,h2⟩:=List.any_eq_true.1 hc
    obtain ⟨d,hd,rfl⟩:=List.mem_map.1 h1
    rw [hbd] at h2
    exact of_decide_eq_true h2 (c.2 d hd)
   rw [this,c.1,if_neg (by decide),if_pos ⟨rfl,c.2⟩]
   refine sort_ms hf hn ?_ hu hp hl
   refine (hl'.map cv).trans (.of_eq ?_)
   rw [List.map_map]
   exact List.map_congr_left fun e he=>hcv e (c.2 e he)
  ·have:(q0 || (D.map mk2).any bd) = true:=by
    cases hq:q0 with
    | true=>rfl
    | false=>
     rw [Bool.false_or,List.any_eq_true]
     refine Classical.byContradiction fun hc=>c ⟨hq,fun e he=>Classical.byContradiction fun h=>hc ⟨mk2 e,List.mem_map.2 ⟨e,he,rfl⟩,?_⟩⟩
     rw [hbd]
     exact decide_eq_true h
   rw [this,if_pos rfl,if_neg c]
theorem lE (A:List (Rat × Rat)) (e:Rat × Rat):fI (A ++ [e]) = bh e.1 e.2 (fI A):=by
 unfold fI
 rw [List.foldl_append]; rfl
theorem putH {k b m:Nat} {T:List (Rat × Rat)} {x p:Rat} (hT:∀ e ∈ T,RF k e.1/\RF b e.2) (hx:RF k x) (hp:RF m p) (hk:k + k < 4000) (hb:m + b < 4000) (hl:T.length < 1000):aW_p FU (T.map mr) (RR x) (RR p) = some ((bh x p T).map mr):=by
 have hF:=aA
 have hh:=az (B:=aW_l1 FU (T.map mr) (RR x) (RR p)) (fun s:Bool × Nat × List Td=>T.length - s.2.1)
  (fun s=>s.2.1 <= T.length/\s.2.2.length <= s.2.1 + (if s.1 = true then 1 else 0)/\s.2.2 ++ (if s.1 = true then (T.drop s.2.1).map mr else (bh x p (T.drop s.2.1)).map mr) = (bh x p T).map mr)
  (fun r=>r.2.length <= T.length + 1/\(if r.1 = true then r.2 else r.2 ++ [mr (x,p)]) = (bh x p T).map mr) ?_ FU (false,0,[]) ⟨Nat.zero_le _,by simp,by simp⟩ (by simp only; omega)
 ·obtain ⟨⟨q,xs⟩,e,h1,h2⟩:=hh
  unfold aW_p
  rw [e,aa]
  simp only at h1 h2 ⊢
  by_cases hq:q = true
  ·rw [if_pos hq]; rw [if_pos hq] at h2; rw [h2]
  ·rw [if_neg hq]; rw [if_neg hq] at h2
   rw [bq _ _ (by simp only [leC,leN]; omega),aa]
   exact congrArg some h2
 ·rintro ⟨q,i,xs⟩ J ⟨h1,h2,h3⟩ hJ
  simp only at h1 h2 h3 hJ
  have h2' : xs.length <= i + 1:=by split at h2 <;> omega
  unfold aW_l1
  simp only
  by_cases h0:i < T.length
  ·obtain ⟨f1,f2⟩:=hT T[i] (List.getElem_mem _)
   rw [if_pos (by simpa using h0),geE (by simpa using h0),aa,List.getElem_map]
   rw [List.drop_eq_getElem_cons h0] at h3
   rw [show (mr T[i]).fm = RR T[i].1 from rfl,ef f1 hx hk,aa]
   by_cases hq:q = true
   ·rw [if_pos hq] at h2 h3 ⊢
    rw [bq _ _ (by simp only [leC,leN]; omega),aa]
    refine hJ (q,i + 1,_) ⟨h0,by simp only [List.length_append,leC,leN,if_pos hq]; omega,?_⟩ (by simp only; omega)
    simp only
    rw [if_pos hq,<- h3,List.append_assoc]; rfl
   ·rw [if_neg hq] at h2 h3 ⊢
    rw [bh] at h3
    by_cases c1:T[i].1 = x
    ·rw [if_pos (cg.2 c1)]
     rw [if_pos c1] at h3
     rw [show (mr T[i]).fP = RR T[i].2 from rfl,kC f2 hp (by omega),aa,bq _ _ (by simp only [leC,leN]; omega),aa]
     refine hJ (true,i + 1,_) ⟨h0,by simp only [List.length_append,leC,leN,if_true]; omega,?_⟩ (by simp only; omega)
     simp only
     rw [if_pos trivial,<- h3]; simp [mr]
    ·rw [if_neg (fun hc=>c1 (cg.1 hc))]
     rw [if_neg c1] at h3
     unfold jn
     simp only
     by_cases c2:x < T[i].1
     ·rw [if_pos (eC.2 c2)]
      rw [if_pos c2] at h3
      rw [bq _ _ (by simp only [leC,leN]; omega),aa]
      rw [bq _ _ (by simp only [List.length_append,leC,leN]; omega),aa]
      refine hJ (true,i + 1,_) ⟨h0,by simp only [List.length_append,leC,leN,if_true]; omega,?_⟩ (by simp only; omega)
      simp only
      rw [if_pos trivial,<- h3,List.append_assoc,List.append_assoc]; rfl
     ·rw [if_neg (fun hc=>c2 (eC.1 hc))]
      rw [if_neg c2] at h3
      rw [bq _ _ (by simp only [leC,leN]; omega),aa]
      refine hJ (q,i + 1,_) ⟨h0,by simp only [List.length_append,leC,leN,if_neg hq]; omega,?_⟩ (by simp only; omega)
      simp only
      rw [if_neg hq,<- h3]; simp
  ·have hi:i = T.length:=by omega
   rw [if_neg (by simpa using h0)]
   refine ⟨_,rfl,?_⟩
   simp only
   rw [hi,List.drop_length] at h3
   refine ⟨by omega,?_⟩
   by_cases hq:q = true
   ·rw [if_pos hq] at h3 ⊢; simpa using h3
   ·rw [if_neg hq] at h3 ⊢; simpa [bh] using h3
open Classical in
theorem pd {k b:Nat} {Z:List (Rat × Rat)} (hZ:∀ e ∈ Z,RF k e.1/\RF b e.2) (hk:k < 4000) (hb:b < 4000) (hl:Z.length <= 400):aJ_p FU (Z.map mr) = some (if ∀ e ∈ Z,FQ e.1/\FQ e.2 then (Z.map ms,0) else ([],6)):=by
 have hF:=aA
 have hh:=az (B:=aJ_l1 FU (Z.map mr)) (fun s=>Z.length - s.1) (fun s=>∃ i,i <= Z.length/\s = (i,(Z.take i).map ms)/\∀ e ∈ Z.take i,FQ e.1/\FQ e.2) (fun r=>((∀ e ∈ Z,FQ e.1/\FQ e.2)/\r = .inr (Z.map ms)) ∨ (¬ (∀ e ∈ Z,FQ e.1/\FQ e.2)/\r = .inl ([],6))) ?_ FU (0,[]) ⟨0,Nat.zero_le _,rfl,fun s hs=>by cases hs⟩ (by simp only; omega)
 ·unfold aJ_p
  rw [if_neg (by rw [List.length_map]; omega)]
  obtain ⟨r,e,⟨h,rfl⟩ | ⟨h,rfl⟩⟩:=hh
  ·rw [e,if_pos h]; rfl
  ·rw [e,if_neg h]; rfl
 ·rintro s J ⟨i,hi,rfl,hp⟩ hJ
  unfold aJ_l1
  simp only
  by_cases c:i < Z.length
  ·obtain ⟨f1,f2⟩:=hZ _ (List.getElem_mem c)
   rw [if_pos (by simpa using c),geE (by simpa using c),aa,List.getElem_map,show (mr Z[i]).fm = RR Z[i].1 from rfl,show (mr Z[i]).fP = RR Z[i].2 from rfl,na f1 hk,aa,na f2 hb,aa]
   by_cases c1:FQ Z[i].1
   ·by_cases c2:FQ Z[i].2
    ·rw [if_pos c1,if_pos c2,if_pos rfl,if_pos rfl,bq _ _ (by simp only [List.length_map,List.length_take,leC,leN]; omega),aa]
     refine hJ _ ⟨i + 1,c,?_,fun e he=>?_⟩ (by simp only; omega)
     ·rw [List.take_succ_eq_append_getElem c,List.map_append]; rfl
     ·rw [List.take_succ_eq_append_getElem c] at he
      rcases List.mem_append.1 he with he | he
      ·exact hp e he
      ·rw [List.mem_singleton.1 he]; exact ⟨c1,c2⟩
    ·rw [if_pos c1,if_neg c2,if_pos rfl,if_neg (by decide)]
     exact ⟨_,rfl,.inr ⟨fun hc=>c2 (hc _ (List.getElem_mem c)).2,rfl⟩⟩
   ·rw [if_neg c1,if_neg (by decide)]
    exact ⟨_,rfl,.inr ⟨fun hc=>c1 (hc _ (List.getElem_mem c)).1,rfl⟩⟩
  ·rw [if_neg (by simpa using c)]
   refine ⟨_,rfl,.inl ⟨?_,?_⟩⟩
   ·rwa [List.take_of_length_le (by omega)] at hp
   ·rw [List.take_of_length_le (by omega)]
end Go.Proofs.YtkommhmbkbhmlaaGreat
namespace Go.Proofs.YtkommhmbkbhmlaaGreat
open Go
set_option maxRecDepth 8000
structure Mx (L:List (List (Rat × Rat))) (ws:List Rat):Prop where
 fq:∀ T ∈ L,∀ e ∈ T,FQ e.1/\FQ e.2
 fw:∀ q ∈ ws,FQ q
 ln:∀ T ∈ L,T.length <= 9
 eq:L.length = ws.length
 l4:ws.length <= 4
end Go.Proofs.YtkommhmbkbhmlaaGreat
namespace Go.Proofs.YtkommhmbkbhmlaaGreat
open Go
set_option maxRecDepth 8000
theorem pD:cx_p FU = some true:=by kernel_rfl
theorem jn_ok {α β:Type} {K:β -> Option α} {F:(β -> Option α) -> Option α} {Q:Option α -> Prop} (P:β -> Prop) (hK:∀ b,P b -> Q (K b)) (hF:∀ J:β -> Option α,(∀ b,P b -> Q (J b)) -> Q (F J)):Q (jn K F):=hF K hK
theorem oP {a b:Int} (ha:Sm a) (hb:Sm b) (h0:b ≠ 0):∃ y,bS_p FU a b = some y:=by
 have hF:=aA
 obtain ⟨_,l1,l2⟩:=iQ FU 16 a b h0 ha.r hb.r (by decide) hF
 unfold bS_p
 rw [if_neg h0,gj ha hb h0,aa,cx FU 16 _ l1 l2 (by decide) (by omega),aa]
 exact ⟨_,rfl⟩
theorem oT (xs:List Ta) (h:xs.length <= 1000):aK_p FU xs = some xs:=by
 unfold aK_p
 rw [bq _ _ (by simp only [leN]; omega),aa,List.nil_append]
 exact iN fun h=>by rw [h]
theorem fC (t:T8):∃ b,aq_p FU t = some b:=by
 have hF:=aA
 have hh:=az (B:=aq_l1 FU t) (fun i:Nat=>6 - i) (fun _=>True) (fun _=>True) ?_ FU 0 trivial (by omega)
 ·obtain ⟨r,e,_⟩:=hh
  unfold aq_p
  rw [e]
  cases r with
  | inl b=>exact ⟨_,rfl⟩
  | inr u=>exact ⟨_,rfl⟩
 ·intro i J _ hJ
  unfold aq_l1 ci_p
  simp only
  by_cases c:i < ([t.2.2.1,t.2.2.2.1,t.2.2.2.2.1,t.2.2.2.2.2.1,t.2.2.2.2.2.2.1,t.2.2.2.2.2.2.2]:List UInt64).length
  ·have c6:i < 6:=c
   rw [if_pos c,geE c,aa,aa]
   split
   ·exact ⟨_,rfl,trivial⟩
   ·exact hJ (i + 1) trivial (by omega)
  ·rw [if_neg c]
   exact ⟨_,rfl,trivial⟩
theorem ownAny (a0:List Ta):∃ r,bG_p FU a0 = some r/\r.length <= 6:=by
 have hF:=aA
 unfold bG_p
 rw [ix (Nat.min_le_left _ _),aa]
 have hl:(a0.take (min a0.length 6)).length <= 6:=by rw [List.length_take]; omega
 rw [oT _ (by omega),aa]
 generalize a0.take (min a0.length 6) = ys at hl ⊢
 have hh:=az (B:=bG_l1 FU ys) (fun s=>ys.length - s.1) (fun s=>s.2.length = ys.length) (fun r=>r.length = ys.length) ?_ FU (0,ys) rfl (by simp only; omega)
 ·obtain ⟨r,e,h⟩:=hh
  rw [e]
  exact ⟨r,rfl,by omega⟩
 ·rintro ⟨i,xs⟩ J h hJ
  simp only at h hJ
  unfold bG_l1
  simp only
  by_cases c:i < ys.length
  ·have put1:∀ (zs:List Ta) (m:Ta),zs.length = ys.length -> ∃ us,put zs ((i:Nat):Int) m = some us/\us.length = ys.length:=fun zs m hz=>
    ⟨_,bQ m (by omega),by rw [List.length_set]; exact hz⟩
   have last:∀ (zs:List Ta) (m:Ta),zs.length = ys.length -> ∃ r,((put zs ((i:Nat):Int) m).bind fun us=>J (i + 1,us)) = some r/\r.length = ys.length:=fun zs m hz=>by
    obtain ⟨us,e,hu⟩:=put1 zs m hz
    rw [e,aa]
    exact hJ (i + 1,us) hu (by simp only; omega)
   have tail:∀ zs:List Ta,zs.length = ys.length -> ∃ r,((zs[i]?).bind fun x=>(aq_p FU x.fP.fN).bind fun y=>if y = true then (aq_p FU x.fP.fD).bind fun y2=>(if y2 = true then J (i + 1,zs) else (put zs ((i:Nat):Int) (⟨x.fm,noS⟩:Ta)).bind fun us=>J (i + 1,us)) else (put zs ((i:Nat):Int) (⟨x.fm,noS⟩:Ta)).bind fun us=>J (i + 1,us)) = some r/\r.length = ys.length:=fun zs hz=>by
    rw [geE (show i < zs.length by omega),aa]
    obtain ⟨b,e⟩:=fC zs[i].fP.fN
    rw [e,aa]
    split
    ·obtain ⟨b2,e2⟩:=fC zs[i].fP.fD
     rw [e2,aa]
     split
     ·exact hJ (i + 1,zs) hz (by simp only; omega)
     ·exact last zs _ hz
    ·exact last zs _ hz
   rw [if_pos c,geE (show i < xs.length by omega),aa]
   obtain ⟨b,e⟩:=fC xs[i].fm.fN
   rw [e,aa]
   split
   ·obtain ⟨b2,e2⟩:=fC xs[i].fm.fD
    rw [e2,aa]
    unfold jn
    simp only
    split
    ·exact tail xs h
    ·obtain ⟨us,e3,hu⟩:=put1 xs ⟨⟨(0,0,0,0,0,0,0,0),(0,0,0,0,0,0,0,0)⟩,xs[i].fP⟩ h
     rw [e3,aa]
     exact tail us hu
   ·obtain ⟨us,e3,hu⟩:=put1 xs ⟨⟨(0,0,0,0,0,0,0,0),(0,0,0,0,0,0,0,0)⟩,xs[i].fP⟩ h
    rw [e3,aa]
    exact tail us hu
  ·rw [if_neg c]
   exact ⟨_,rfl,h⟩
theorem bendAny (b:Tl) (xs:List Ta) (h0:0 < xs.length) (h8:xs.length <= 8):∃ r,bV_p FU b xs = some r/\r.length <= 9:=by
 have ha:=UInt8.toNat_lt b.fm
 unfold bV_p
 rw [oT _ (by omega),aa]
 unfold cD
 rw [if_neg (by omega),aa]
 have s0:0 <= ((b.fm.toNat:Nat):Int).tmod ((xs.length:Nat):Int):=Int.tmod_nonneg _ (by omega)
 have s1:((b.fm.toNat:Nat):Int).tmod ((xs.length:Nat):Int) < ((xs.length:Nat):Int):=Int.tmod_lt_of_pos _ (by omega)
 generalize ((b.fm.toNat:Nat):Int).tmod ((xs.length:Nat):Int) = s at s0 s1 ⊢
 have hs:s.toNat < xs.length:=by omega
 split
 ·rw [aZ s0 hs,aa,bQ _ hs,aa]
  exact ⟨_,rfl,by rw [List.length_set]; omega⟩
 ·split
  ·rw [aZ s0 hs,aa,bQ _ hs,aa]
   exact ⟨_,rfl,by rw [List.length_set]; omega⟩
  ·split
   ·rw [aZ s0 hs,aa,bq _ _ (by simp only [leC,leN]; omega),aa]
    exact ⟨_,rfl,by simp only [List.length_append,leC,leN]; omega⟩
   ·split
    ·rw [aS (by omega) (by omega),aa]
     unfold chk3
     rw [if_pos (by omega),aa,if_neg (by omega)]
     exact ⟨_,rfl,Nat.le_trans (List.length_take_le _ _) (by omega)⟩
    ·exact ⟨_,rfl,by omega⟩
end Go.Proofs.YtkommhmbkbhmlaaGreat
namespace Go.Proofs.YtkommhmbkbhmlaaGreat
open Go
set_option maxRecDepth 8000
def evn (l:List Rat) (N:Nat):List (Rat × Rat):=l.map fun q=>(q,un 1 N)
theorem gM (l:List Rat) (N:Nat):(evn l N).length = l.length:=List.length_map ..
theorem ma {N:Nat} {l:List Rat} (h:∀ q ∈ l,FQ q) (h0:0 < N) (hN:N <= 20) (hl:l.length <= 20):Wh 8 8 200 (evn l N):=by
 have hel:=gM l N
 refine ⟨fun e he=>?_,fun e he=>?_,by omega,by omega,by omega⟩
 ·obtain ⟨q,hq,rfl⟩:=List.mem_map.1 he
  exact (h q hq).rf
 ·obtain ⟨q,hq,rfl⟩:=List.mem_map.1 he
  exact (lc h0 (by omega) (by decide)).rf
theorem jZ {N:Nat} {l:List Rat} (h:∀ q ∈ l,FQ q):∀ e ∈ evn l N,FQ e.1:=fun e he=>by
 obtain ⟨q,hq,rfl⟩:=List.mem_map.1 he
 exact h q hq
theorem overE {N:Nat} (h0:0 < N) (h4:N <= 1000000):cq_p FU (Rt 1) (Rt (Rat.divInt N 1)) = some (Rt (un 1 N)):=by
 have hF:=aA
 have f:FQ (Rat.divInt N 1):=(Bt.of (i:=40) (j:=40) (by decide) (by omega) (by decide)).fq (by decide) (by decide)
 have hn:Rat.divInt N 1 ≠ 0:=fun hc=>by
  have h2:Rat.divInt N 1 = Rat.divInt 0 1:=hc
  rw [Rat.divInt_eq_divInt_iff (by decide) (by decide)] at h2
  omega
 rw [(overG FU 8 _ _ FQ1.rf f.rf hn (by decide) hF).1]
 have e:(1:Rat) = Rat.divInt 1 1:=rfl
 rw [e,Rat.div_def,Rat.inv_divInt,Rat.divInt_mul_divInt]
 unfold un
 rw [Int.mul_one,Int.one_mul]; rfl
theorem divE (z:Int):(Rat.divInt z 1).num = z/\(Rat.divInt z 1).den = 1:=by
 rw [show (1:Int) = ((1:Nat):Int) from rfl,Rat.divInt_ofNat,Rat.mkRat_one]
 exact ⟨rfl,rfl⟩
theorem fromE {N:Nat} (h4:N <= 1000000):aD_p FU (N:Int) = some (Rt (Rat.divInt N 1)):=by
 rw [pp (N:Int) (by unfold Sm; omega)]
 obtain ⟨e1,e2⟩:=divE (N:Int)
 show some (⟨Go.Proofs.YtkommhmbkbhmlaaGreat.L (N:Int),Go.Proofs.YtkommhmbkbhmlaaGreat.L 1⟩:Tc) = some (⟨Go.Proofs.YtkommhmbkbhmlaaGreat.L (Rat.divInt N 1).num,Go.Proofs.YtkommhmbkbhmlaaGreat.L ((Rat.divInt N 1).den:Int)⟩:Tc)
 rw [e1,e2]; rfl
theorem tallyI {N:Nat} {l:List Rat} (h:∀ q ∈ l,FQ q) (h0:0 < N) (hN:N <= 20) (hl:l.length <= 20):am (bn_l1 FU (l.map Sg) (Rt (un 1 N))) FU (0,[]) = some ((kG (evn l N)).map mk2):=by
 have hF:=aA
 have hW:=ma h h0 hN hl
 have hel:=gM l N
 have hh:=az (B:=bn_l1 FU (l.map Sg) (Rt (un 1 N))) (fun s=>l.length - s.1) (fun s=>∃ i,i <= l.length/\s = (i,(kG ((evn l N).take i)).map mk2)) (fun r=>r = (kG (evn l N)).map mk2) ?_ FU (0,[]) ⟨0,Nat.zero_le _,rfl⟩ (by simp only; omega)
 ·obtain ⟨r,e,rfl⟩:=hh
  exact e
 ·rintro s J ⟨i,hi,rfl⟩ hJ
  unfold bn_l1
  simp only
  by_cases c:i < l.length
  ·have f:=h _ (List.getElem_mem c)
   have hin:(evn l N)[i]'(by omega) = (l[i],un 1 N):=by unfold evn; rw [List.getElem_map]
   have hsp:evn l N = (evn l N).take i ++ (evn l N).drop i:=(List.take_append_drop ..).symm
   have hd:=hW.gat hsp (ip _)
   have hf:=(ip ((evn l N).take i)).fq fun d hd=>jZ h d (List.mem_of_mem_take hd)
   rw [if_pos (by simpa using c),geE (by simpa using c),aa,List.getElem_map]
   rw [pcaseH f (lc h0 (by omega) (by decide)).rf hf (fun e he=>(hd e he).2) hW.lim (fun D=>J (i + 1,D))]
   refine hJ _ ⟨i + 1,c,?_⟩ (by simp only; omega)
   rw [List.take_succ_eq_append_getElem (by omega),hin,nQ]
  ·rw [if_neg (by simpa using c)]
   refine ⟨_,rfl,?_⟩
   rw [List.take_of_length_le (by omega)]
theorem tallyRI {l:List Rat} (h:∀ q ∈ l,FQ q) (h0:0 < l.length) (hl:l.length <= 20):am (ap_l1 FU (l.map Sg)) FU ([],0) = some ((fI (evn l l.length)).map mr):=by
 have hF:=aA
 have hW:=ma h h0 hl hl
 have hel:=gM l l.length
 have hh:=az (B:=ap_l1 FU (l.map Sg)) (fun s=>l.length - s.2) (fun s=>∃ i,i <= l.length/\s = ((fI ((evn l l.length).take i)).map mr,i)) (fun r=>r = (fI (evn l l.length)).map mr) ?_ FU ([],0) ⟨0,Nat.zero_le _,rfl⟩ (by simp only; omega)
 ·obtain ⟨r,e,rfl⟩:=hh
  exact e
 ·rintro s J ⟨i,hi,rfl⟩ hJ
  unfold ap_l1
  simp only
  by_cases c:i < l.length
  ·have f:=h _ (List.getElem_mem c)
   have hin:(evn l l.length)[i]'(by omega) = (l[i],un 1 l.length):=by unfold evn; rw [List.getElem_map]
   have hsp:evn l l.length = (evn l l.length).take i ++ (evn l l.length).drop i:=(List.take_append_drop ..).symm
   obtain ⟨c1,c2⟩:=oL ((evn l l.length).take i)
   have hd:=hW.gat hsp c1
   have hcl:=c1.len
   have htk:=List.length_take_le' i (evn l l.length)
   rw [if_pos (by simpa using c),geE (by simpa using c),aa,List.getElem_map,inS f,aa]
   rw [gj (dG (by decide)) (dG (by simp only [List.length_map]; omega)) (by simp only [List.length_map]; omega),aa,List.length_map,show Rat.divInt 1 (l.length:Int) = un 1 l.length from rfl]
   rw [putH hd f.rf (lc h0 (by omega) (by decide)).rf (by omega) hW.lim (by omega),aa]
   refine hJ _ ⟨i + 1,c,?_⟩ (by simp only; omega)
   rw [List.take_succ_eq_append_getElem (by omega),hin,lE]
  ·rw [if_neg (by simpa using c)]
   refine ⟨_,rfl,?_⟩
   rw [List.take_of_length_le (by omega)]
theorem mH:Oks []:=fun x h=>by cases h
open Classical in
theorem oU (w:List Tb) (hw:w.length <= 20 ∨ 400 < w.length):∃ r:List Ta × Int,bn_p FU w = some r/\ap_p FU w = some r/\r.1.length < 1000:=by
 have hF:=aA
 unfold bn_p ap_p
 by_cases c0:400 < w.length
 ·rw [if_pos c0,if_pos c0]
  exact ⟨_,rfl,rfl,by decide⟩
 have hw:w.length <= 20:=hw.resolve_right c0
 rw [if_neg c0,if_neg c0,kz [] w (by decide) (fun x h=>by cases h) (by omega),aa,if_pos mH,nb w (by omega),aa]
 by_cases c2:Shs w
 ·rw [if_pos c2,if_pos rfl,decide_eq_true c2,if_pos rfl]
  obtain ⟨l,rfl,hl⟩:=c2.lists
  rw [List.length_map] at hw
  simp only [List.length_map]
  by_cases c3:l.length = 0
  ·rw [if_pos c3,if_pos c3]
   exact ⟨_,rfl,rfl,by decide⟩
  ·have h0:0 < l.length:=Nat.pos_of_ne_zero c3
   have hW:=ma hl h0 hw hw
   have hel:=gM l l.length
   obtain ⟨z1,z2⟩:=oL (evn l l.length)
   have g:=ip (evn l l.length)
   have gl:=g.len
   have zl:=z1.len
   rw [if_neg c3,if_neg c3,from1,aa,fromE (by omega),aa,overE h0 (by omega),aa,tallyI hl h0 hw hw,aa,if_neg (by rw [List.length_map]; omega),tallyRI hl h0 hw,aa]
   rw [pd (hW.gat (List.append_nil _).symm z1) (by omega) (by omega) (by omega),aa]
   rw [gatherH (U:=fI (evn l l.length)) (fun xs q=>rfl) (fun e J xs q=>rfl) false (g.fq (jZ hl)) g.nd z2 (z1.perm2 g) (by omega)]
   have hp:=z1.perm2 g
   by_cases c5:∀ e ∈ kG (evn l l.length),FQ e.2
   ·rw [if_pos ⟨rfl,c5⟩,if_pos fun e he=>⟨z1.fq (jZ hl) e he,c5 e (hp.mem_iff.1 he)⟩]
    exact ⟨_,rfl,rfl,by rw [List.length_map]; omega⟩
   ·rw [if_neg fun hc=>c5 hc.2,if_neg fun hc=>c5 fun e he=>(hc e (hp.mem_iff.2 he)).2]
    exact ⟨_,rfl,rfl,by decide⟩
 ·rw [if_neg c2,if_neg (by decide),decide_eq_false c2,if_neg (by decide)]
  exact ⟨_,rfl,rfl,by decide⟩
open Classical in
theorem ou (a:Tb):∃ r:List Ta × Int,cV_p FU a = some r/\cg_p FU a = some r/\r.1.length < 1000:=by
 have hF:=aA
 unfold cV_p cg_p
 rw [kz [] [a] (by decide) (fun x h=>by cases h) (by simp only [leC,leN]; decide),aa,if_pos mH]
 by_cases c:Shs [a]
 ·obtain ⟨q,fq,rfl⟩:=c a (List.mem_singleton.2 rfl)
  have ho:aJ_p FU ([(q,(1:Rat))].map mr) = _:=pd (k:=8) (b:=8) (Z:=[(q,1)]) (fun e he=>by rw [List.mem_singleton.1 he]; exact ⟨fq.rf,FQ1.rf⟩) (by omega) (by omega) (by simp only [leC,leN]; decide)
  rw [if_pos c,if_pos rfl,sof (by decide) (dG (by decide)) (dG (by decide)),aa,gw fq,aa,if_pos rfl,inS fq,aa,oneR,aa,show ([(⟨RR q,RR 1⟩:Td)]:List Td) = [(q,(1:Rat))].map mr from rfl,ho,aa]
  rw [if_pos fun e he=>by rw [List.mem_singleton.1 he]; exact ⟨fq,FQ1⟩]
  exact ⟨_,rfl,rfl,by simp only [leC,leN]; decide⟩
 ·have hr:=(gk (s:=a) fun ⟨q,h1,h2⟩=>c fun s hs=>by rw [List.mem_singleton.1 hs]; exact ⟨q,h1,h2⟩).2
  rw [if_neg c,if_neg (by decide),hr,aa,if_neg (by decide)]
  exact ⟨_,rfl,rfl,by decide⟩
theorem oA (x y:List Ta) (h:x.length < 1000):∃ b,bb_p FU x y = some b/\ai_p FU x y = some b:=by
 have hF:=aA
 unfold bb_p ai_p
 by_cases h0:x.length = y.length
 ·rw [if_pos h0,if_pos h0]
  have key:∀ k i,x.length - i <= k -> k < 1000 -> ∀ n m,k < n -> k < m -> ∃ r:Bool ⊕ Unit,am (bb_l1 FU x y) n i = some r/\am (ai_l1 FU x y) m i = some r:=by
   intro k
   induction k with
   | zero=>
    intro i hi _ n m hn hm
    obtain ⟨n,rfl⟩:∃ n', n = n' + 1:=⟨n - 1,by omega⟩
    obtain ⟨m,rfl⟩:∃ m', m = m' + 1:=⟨m - 1,by omega⟩
    refine ⟨.inr (),?_,?_⟩
    ·show bb_l1 FU x y _ i = _
     unfold bb_l1
     simp only
     rw [if_neg (by omega)]
    ·show ai_l1 FU x y _ i = _
     unfold ai_l1
     simp only
     rw [if_neg (by omega)]
   | succ k ih=>
    intro i hi hk n m hn hm
    obtain ⟨n,rfl⟩:∃ n', n = n' + 1:=⟨n - 1,by omega⟩
    obtain ⟨m,rfl⟩:∃ m', m = m' + 1:=⟨m - 1,by omega⟩
    obtain ⟨r,e1,e2⟩:=ih (i + 1) (by omega) (by omega) n m (by omega) (by omega)
    by_cases c:i < x.length
    ·have cy:i < y.length:=by omega
     by_cases ce:x[i] = y[i]
     ·refine ⟨r,?_,?_⟩
      ·show bb_l1 FU x y _ i = _
       unfold bb_l1 cR_p
       simp only
       rw [if_pos c,geE c,aa,geE cy,aa,aa,if_pos (decide_eq_true ce)]
       exact e1
      ·show ai_l1 FU x y _ i = _
       unfold ai_l1
       simp only
       rw [if_pos c,geE c,aa,geE cy,aa,if_pos ce]
       exact e2
     ·refine ⟨.inl false,?_,?_⟩
      ·show bb_l1 FU x y _ i = _
       unfold bb_l1 cR_p
       simp only
       rw [if_pos c,geE c,aa,geE cy,aa,aa,if_neg (by rw [decide_eq_true_iff]; exact ce)]
      ·show ai_l1 FU x y _ i = _
       unfold ai_l1
       simp only
       rw [if_pos c,geE c,aa,geE cy,aa,if_neg ce]
    ·refine ⟨.inr (),?_,?_⟩
     ·show bb_l1 FU x y _ i = _
      unfold bb_l1
      simp only
      rw [if_neg c]
     ·show ai_l1 FU x y _ i = _
      unfold ai_l1
      simp only
      rw [if_neg c]
  obtain ⟨r,e1,e2⟩:=key x.length 0 (by omega) h FU FU (by omega) (by omega)
  rw [e1,e2]
  cases r with
  | inl b=>exact ⟨b,rfl,rfl⟩
  | inr u=>exact ⟨true,rfl,rfl⟩
 ·rw [if_neg h0,if_neg h0]
  exact ⟨_,rfl,rfl⟩
open Classical in
theorem np (x:List Ta) (h:x.length <= 60):∃ c,av_p FU x = some c/\bw_p FU x = some c:=by
 rw [iV x h]
 refine ⟨_,rfl,?_⟩
 unfold bw_p
 rw [oS x h,aa]
 by_cases c:Okm x
 ·rw [if_pos c,decide_eq_true c]; rfl
 ·rw [if_neg c,decide_eq_false c]; rfl
theorem cloneS (xs:List Tb) (h:xs.length <= 1000):bc_p FU xs = some xs:=by
 unfold bc_p
 rw [bq _ _ (by simp only [leN]; omega),aa,List.nil_append]
 exact iN fun h=>by rw [h]
theorem mp {B:(Nat × List Tb -> Option (List Tb)) -> Nat × List Tb -> Option (List Tb)} {x y:List Tb} (hx:x.length <= 20) (hy:y.length <= 20)
  (hB:∀ J i xs,B J (i,xs) = (if i < ([x,y]:List (List Tb)).length then (([x,y]:List (List Tb))[i]?).bind fun x156=>(app xs x156).bind fun xs167=>J (i + 1,xs167) else some xs)):am B FU (0,[]) = some (x ++ y):=by
 have hF:=aA
 obtain ⟨n,hn⟩:∃ n,FU = n + 3:=⟨FU - 3,by omega⟩
 rw [hn]
 show B (am B (n + 2)) (0,[]) = _
 rw [hB,if_pos (by simp),show ([x,y]:List (List Tb))[0]? = some x from rfl,aa,bq _ _ (by simp only [leN]; omega),aa]
 show B (am B (n + 1)) (1,[] ++ x) = _
 rw [hB,if_pos (by simp),show ([x,y]:List (List Tb))[1]? = some y from rfl,aa,bq _ _ (by simp only [List.nil_append]; omega),aa]
 show B (am B n) (2,([] ++ x) ++ y) = _
 rw [hB,if_neg (by simp),List.nil_append]
theorem concatE (x y:List Tb) (hx:x.length <= 20) (hy:y.length <= 20):aj_p FU [x,y] = some (x ++ y):=by
 have hF:=aA
 have h3:am (aj_l3 FU [x,y]) FU (0,0) = some ((x.length + y.length:Nat):Int):=by
  obtain ⟨n,hn⟩:∃ n,FU = n + 3:=⟨FU - 3,by omega⟩
  have hB:∀ J z i,aj_l3 FU [x,y] J (z,i) = (if i < ([x,y]:List (List Tb)).length then (([x,y]:List (List Tb))[i]?).bind fun x54=>(chk (z + ((x54.length:Nat):Int))).bind fun s66=>(if s66 < 0 then none else J (s66,i + 1)) else some z):=fun _ _ _=>rfl
  generalize aj_l3 FU [x,y] = B at hB ⊢
  rw [hn]
  show B (am B (n + 2)) (0,0) = _
  rw [hB,if_pos (by simp),show ([x,y]:List (List Tb))[0]? = some x from rfl,aa,aS (by omega) (by omega),aa,if_neg (by omega)]
  show B (am B (n + 1)) (0 + (x.length:Int),1) = _
  rw [hB,if_pos (by simp),show ([x,y]:List (List Tb))[1]? = some y from rfl,aa,aS (by omega) (by omega),aa,if_neg (by omega)]
  show B (am B n) (0 + (x.length:Int) + (y.length:Int),2) = _
  rw [hB,if_neg (by simp),Int.zero_add]
  rfl
 unfold aj_p
 rw [h3,aa,if_neg (by omega),aS (by omega) (by omega),aa]
 split
 ·unfold mz
  rw [if_pos (by omega),aa,mp hx hy (fun J i xs=>rfl),aa]
 ·rw [mp hx hy (fun J i xs=>rfl),aa]
theorem ik {x:List Ta} {d:Th} {T:List Ta} (k:Option Bool) (hx:x.length <= 9) (hd:ab_p FU d = some T) :
  ((av_p FU x).bind fun y36=>(bw_p FU x).bind fun y37=>(if y36 = y37 then (ab_p FU d).bind fun y39=>(bb_p FU x y39).bind fun y47=>(ab_p FU d).bind fun y49=>(ai_p FU x y49).bind fun y57=>(if (y47 == y57) = true then k else some false) else some false)) = k:=by
 obtain ⟨c,e1,e2⟩:=np x (by omega)
 obtain ⟨b,e3,e4⟩:=oA x T (by omega)
 rw [e1,aa,e2,aa,if_pos rfl,hd,aa,e3,aa,aa,e4,aa,if_pos (beq_self_eq_true b)]
theorem fY {w:List Tb} (k:Option Bool) (hw:w.length <= 20 ∨ 400 < w.length) :
  ((bn_p FU w).bind fun y=>(ap_p FU w).bind fun y2=>(ai_p FU y.1 y2.1).bind fun q=>if q = true then (if y.2 = y2.2 then k else some false) else some false) = k:=by
 obtain ⟨r,e1,e2,h⟩:=oU w hw
 rw [e1,aa,e2,aa,ky _ h,aa,if_pos rfl,if_pos rfl]
theorem shortL (xs:List Ti) (h:xs.length <= 8):∃ w:List Tb,am (ak_l2 FU xs) FU (0,[]) = some w/\w.length <= 8:=by
 have hF:=aA
 have hh:=az (B:=ak_l2 FU xs) (fun s=>xs.length - s.1) (fun s=>s.1 <= xs.length/\s.2.length = s.1) (fun r=>r.length <= 8) ?_ FU (0,[]) ⟨Nat.zero_le _,rfl⟩ (by simp only; omega)
 ·exact hh
 ·rintro ⟨i,w⟩ J ⟨h1,h2⟩ hJ
  simp only at h1 h2 hJ
  unfold ak_l2
  simp only
  by_cases c:i < xs.length
  ·obtain ⟨q,e1,_⟩:=oM xs[i]
   rw [if_pos c,geE c,aa,e1,aa,bq _ _ (by simp only [leC,leN]; omega),aa]
   exact hJ (i + 1,_) ⟨c,by simp only [List.length_append,leC,leN]; omega⟩ (by simp only; omega)
  ·rw [if_neg c]
   exact ⟨_,rfl,by omega⟩
theorem longL (b:Bool) (w:List Tb) (h:w.length <= 20):∃ r:List Tb,am (ak_l1 FU b) FU (0,w) = some r/\(r.length <= 20 ∨ 400 < r.length):=by
 have hF:=aA
 cases b with
 | false=>
  obtain ⟨n,hn⟩:∃ n,FU = n + 1:=⟨FU - 1,by omega⟩
  have hB:∀ J,ak_l1 FU false J (0,w) = some w:=fun J=>rfl
  generalize ak_l1 FU false = B at hB ⊢
  rw [hn]
  exact ⟨w,hB _,.inl h⟩
 | true=>
  have hh:=az (B:=ak_l1 FU true) (fun s=>401 - s.2.length) (fun s=>s.2.length <= 401/\0 <= s.1/\s.1 <= s.2.length) (fun r=>400 < r.length) ?_ FU (0,w) ⟨by simp only; omega,Int.le_refl _,by simp only; omega⟩ (by simp only; omega)
  ·obtain ⟨r,e,hr⟩:=hh
   exact ⟨r,e,.inr hr⟩
  ·rintro ⟨z,xs⟩ J ⟨h1,h2,h3⟩ hJ
   simp only at h1 h2 h3 hJ
   unfold ak_l1
   simp only
   rw [if_pos trivial]
   by_cases c:xs.length < 401
   ·have r0:0 <= z.tmod 7:=Int.tmod_nonneg _ h2
    have r1:z.tmod 7 < 7:=Int.tmod_lt_of_pos _ (by decide)
    obtain ⟨y,ey⟩:=oP (a:=z.tmod 7) (b:=3) (by unfold Sm; omega) (by unfold Sm; decide) (by decide)
    rw [if_pos c,dq (by decide),aa,ey,aa,bq _ _ (by simp only [leC,leN]; omega),aa,aS (by omega) (by omega),aa]
    exact hJ (_,_) ⟨by simp only [List.length_append,leC,leN]; omega,by simp only; omega,by simp only [List.length_append,leC,leN]; omega⟩ (by simp only [List.length_append,leC,leN]; omega)
   ·rw [if_neg c]
    exact ⟨_,rfl,by omega⟩
theorem ig (a0:List Ta) (a1:Th) (a2:Tl) (a3:List Tb) (a4:Bool):ak_p FU a0 a1 a2 a3 a4 = some true:=by
 obtain ⟨o,eo,ho⟩:=ownAny a0
 obtain ⟨N,T,eT,n0,n8,d⟩:=spreadN a1
 have hl:=(d.dw n0 n8).len
 have hln:=d.len
 obtain ⟨r,er,hr⟩:=bendAny a2 (T.map ms) (by rw [List.length_map]; exact hl.1) (by rw [List.length_map]; omega)
 unfold ak_p
 have ha:cw_p FU a0 a1 a2 = some (o,T.map ms,r):=by
  unfold cw_p
  rw [eo,aa,eT,aa,aa,er,aa]
 rw [pD,aa,if_pos rfl,ha,aa]
 refine (ik _ (show o.length <= 9 by omega) eT).trans ?_
 refine (ik _ (show (T.map ms).length <= 9 by rw [List.length_map]; omega) eT).trans ?_
 refine (ik _ (show r.length <= 9 by omega) eT).trans ?_
 obtain ⟨p,e1,e2,hp⟩:=ou a2.fA
 rw [e1,aa,e2,aa,ky _ hp,aa,if_pos rfl,if_pos rfl,ix (Nat.min_le_left _ _),aa]
 have h6:(a3.take (min a3.length 6)).length <= 6:=by rw [List.length_take]; omega
 have h8:(a1.fL.take (min a1.fL.length 8)).length <= 8:=by rw [List.length_take]; omega
 rw [cloneS _ (by omega),aa,ix (Nat.min_le_left _ _),aa]
 generalize a3.take (min a3.length 6) = few at h6 ⊢
 obtain ⟨w,ew,hw⟩:=shortL _ h8
 rw [ew,aa,concatE w few (by omega) (by omega),aa]
 refine jn_ok (Q:=fun o=>o = some true) (fun w:List Tb=>w.length <= 20 ∨ 400 < w.length) (fun m hm=>?_) fun J hJ=>?_
 ·refine (fY _ (.inl (by omega))).trans ?_
  refine (fY _ (.inl (by omega))).trans ?_
  exact fY _ hm
 ·obtain ⟨m,em,hm⟩:=longL a4 (w ++ few) (by rw [List.length_append]; omega)
  rw [em,aa]
  exact hJ m hm
theorem ic (a0:List Ta) (a1:Th) (a2:Tl) (a3:List Tb) (a4:Bool):∃ n,ak_p n a0 a1 a2 a3 a4 = some true:=⟨FU,ig a0 a1 a2 a3 a4⟩
end Go.Proofs.YtkommhmbkbhmlaaGreat
