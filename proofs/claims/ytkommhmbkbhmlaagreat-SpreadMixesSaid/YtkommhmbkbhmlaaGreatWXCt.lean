/- Plain law: the program's distance is the distance. No program in sight but the printed functions. -/
import Derived.Test.YtkommhmbkbhmlaaGreatWXAk
namespace Go.Proofs.YtkommhmbkbhmlaaGreat
open Go
set_option maxRecDepth 8000
def eL (q:Rat):Bool × List UInt64 × Bool × List UInt64:=((Rt q).fj.fc,(Rt q).fj.fk,(Rt q).fh.fc,(Rt q).fh.fk)
theorem numpos2 {q:Rat} (h:0 < q.num):0 < q:=by
 refine (Rat.lt_iff _ _).2 ?_
 have e1:(0:Rat).num = 0:=rfl
 have e2:((0:Rat).den:Int) = 1:=rfl
 rw [e1,e2]
 omega
end Go.Proofs.YtkommhmbkbhmlaaGreat
namespace Go.Proofs.YtkommhmbkbhmlaaGreat
open Go
def sc (c:Rat) (T:List (Rat × Rat)):List (Rat × Rat):=T.map fun e=>(e.1,e.2 * c)
theorem jZ (c:Rat) (T:List (Rat × Rat)):(sc c T).length = T.length:=List.length_map ..
def cO (W:List (Rat × Rat)):List (Rat × Rat):=W.foldl (fun T e=>bj e.1 e.2 T) []
theorem oR (W:List (Rat × Rat)):Gat W (cO W)/\Up (cO W):=by
 suffices ∀ (l P D:List (Rat × Rat)),Gat P D -> Up D -> Gat (P ++ l) (l.foldl (fun T e=>bj e.1 e.2 T) D)/\Up (l.foldl (fun T e=>bj e.1 e.2 T) D) from this W [] [] Gat.nil List.Pairwise.nil
 intro l
 induction l with
 | nil=>intro P D h u; rw [List.append_nil]; exact ⟨h,u⟩
 | cons e l ih=>
  intro P D h u
  have:=ih (P ++ [e]) _ (h.put u e.1 e.2) (gz e.1 e.2 u)
  rwa [List.append_assoc] at this
structure Wd (N:Nat) (W:List (Rat × Rat)):Prop where
 pos:0 < N
 le:N <= 1000000
 key:∀ e ∈ W,Bt 40 40 e.1
 wts:∀ e ∈ W,∃ k,0 < k/\k <= N/\e.2 = un k N
 sum:sW W = 1
 len:W.length <= 400
def wp (w:Rat) (T:List (Rat × Rat)):List (Rat × Rat):=if w = 0 then [] else sc w T
def bP:List (List (Rat × Rat)) -> List Rat -> List (Rat × Rat)
 | T :: L,w :: ws=>wp w T ++ bP L ws
 | _,_=>[]
theorem gQ:∀ {L:List (List (Rat × Rat))} {ws:List Rat} (M:List (List (Rat × Rat))) (vs:List Rat),L.length = ws.length -> bP (L ++ M) (ws ++ vs) = bP L ws ++ bP M vs
 | [],[],_,_,_=>rfl
 | T :: L,w :: ws,M,vs,h=>by
  show wp w T ++ bP (L ++ M) (ws ++ vs) = wp w T ++ bP L ws ++ bP M vs
  rw [gQ M vs (by simpa using h),List.append_assoc]
theorem jp {L:List (List (Rat × Rat))} {ws:List Rat} (h:L.length = ws.length) {i:Nat} (hi:i < L.length) (hj:i < ws.length):bP (L.take (i + 1)) (ws.take (i + 1)) = bP (L.take i) (ws.take i) ++ wp ws[i] L[i]:=by
 rw [List.take_succ_eq_append_getElem hi,List.take_succ_eq_append_getElem hj,gQ _ _ (by rw [List.length_take,List.length_take]; omega)]
 show _ ++ (wp ws[i] L[i] ++ []) = _
 rw [List.append_nil]
theorem iD {L:List (List (Rat × Rat))} {ws:List Rat} (h:L.length = ws.length) (i:Nat):bP L ws = bP (L.take i) (ws.take i) ++ bP (L.drop i) (ws.drop i):=by
 conv=>lhs; rw [<- List.take_append_drop i L,<- List.take_append_drop i ws]
 rw [gQ _ _ (by rw [List.length_take,List.length_take]; omega)]
end Go.Proofs.YtkommhmbkbhmlaaGreat
namespace Go.Proofs.YtkommhmbkbhmlaaGreat
open Go
end Go.Proofs.YtkommhmbkbhmlaaGreat
namespace Go.Proofs.YtkommhmbkbhmlaaGreat
open Go
set_option maxRecDepth 8000
theorem nz (A:List (Rat × Rat)) (e:Rat × Rat):fR (A ++ [e]) = jO (fR A) e:=by
 unfold fR
 rw [List.foldl_append]; rfl
def sq (l:List Rat):Rat:=iT (fun x=>x) l
theorem ke {l:List Rat} {i:Nat} (h:i < l.length):sq (l.take (i + 1)) = sq (l.take i) + l[i]:=by
 unfold sq
 rw [List.take_succ_eq_append_getElem h,kA]
 show _ + (l[i] + 0) = _
 grind
theorem nN (q:Rat):q.num.sign = 0 ↔ q = 0:=by rw [Int.sign_eq_zero_iff_zero,Rat.num_eq_zero]
theorem gd {a b:Rat × Rat} (ha:FQ a.1/\FQ a.2) (hb:FQ b.1/\FQ b.2):ms a = ms b ↔ a = b:=by
 refine ⟨fun h=>?_,fun h=>by rw [h]⟩
 have h1:Sg a.1 = Sg b.1:=congrArg Ta.fm h
 have h2:Sg a.2 = Sg b.2:=congrArg Ta.fP h
 exact Prod.ext (kf ha.1 hb.1 h1) (kf ha.2 hb.2 h2)
end Go.Proofs.YtkommhmbkbhmlaaGreat
namespace Go.Proofs.YtkommhmbkbhmlaaGreat
open Go
set_option maxRecDepth 8000
theorem RF.mono {l m:Nat} {q:Rat} (h:RF l q) (hm:l <= m):RF m q:=⟨h.n.mono hm,h.d.mono hm⟩
theorem mO (a b:Rat):a + b = Rat.divInt (a.num * b.den + b.num * a.den) (a.den * b.den):=by
 conv=>lhs; rw [<- Rat.num_divInt_den a,<- Rat.num_divInt_den b]
 exact Rat.divInt_add_divInt _ _ FQ.ndnz FQ.ndnz
theorem mL (a b:Rat):a * b = Rat.divInt (a.num * b.num) (a.den * b.den):=by
 conv=>lhs; rw [<- Rat.num_divInt_den a,<- Rat.num_divInt_den b]
 exact Rat.divInt_mul_divInt _ _
theorem dd0 (a b:Rat):(a.den:Int) * b.den ≠ 0:=Int.mul_ne_zero FQ.ndnz FQ.ndnz
theorem nM {l m:Nat} {a b:Rat} (ha:RF l a) (hb:RF m b):Fit (l + m + 1) (a.num * b.den + b.num * a.den)/\Fit (l + m + 1) ((a.den:Int) * b.den):=by
 have f1:=ha.n.mul hb.d
 have f2:=hb.n.mul ha.d
 rw [Nat.add_comm] at f2
 exact ⟨f1.add f2,(ha.d.mul hb.d).mono (by omega)⟩
theorem iY {l m:Nat} {a b:Rat} (ha:RF l a) (hb:RF m b) (h:l + m < 4000):aa_p FU (Rt a) (Rt b) = some (Rt (a + b))/\RF (l + m + 1) (a + b):=by
 have hF:=aA
 obtain ⟨f1,f2⟩:=nM ha hb
 obtain ⟨e1,e2,e3⟩:=mH FU (l + m + 1) _ _ f1 f2 (dd0 a b) (by omega) hF
 have g2:=hb.n.mul ha.d
 rw [Nat.add_comm] at g2
 rw [<- mO] at e1 e2 e3
 refine ⟨?_,?_⟩
 ·unfold aa_p Rt
  rw [bL FU l m _ _ ha.n hb.d (by omega) (by omega),aa,bL FU m l _ _ hb.n ha.d (by omega) (by omega),aa,gH FU (l + m) _ _ (ha.n.mul hb.d) g2 (by omega) (by omega),aa,bL FU l m _ _ ha.d hb.d (by omega) (by omega),aa,e1]
  rfl
 ·rw [mO]; rw [mO] at e2 e3; exact RF.of f1 f2 e2 e3
theorem lY {l m:Nat} {a b:Rat} (ha:RF l a) (hb:RF m b) (h:l + m < 4000):av_p FU (Rt a) (Rt b) = some (Rt (a * b))/\RF (l + m) (a * b):=by
 have hF:=aA
 have f1:=ha.n.mul hb.n
 have f2:=ha.d.mul hb.d
 obtain ⟨e1,e2,e3⟩:=mH FU (l + m) _ _ f1 f2 (dd0 a b) (by omega) hF
 rw [<- mL] at e1 e2 e3
 refine ⟨?_,?_⟩
 ·unfold av_p Rt
  rw [bL FU l m _ _ ha.n hb.n (by omega) (by omega),aa,bL FU l m _ _ ha.d hb.d (by omega) (by omega),aa,e1]
  rfl
 ·rw [mL]; rw [mL] at e2 e3; exact RF.of f1 f2 e2 e3
theorem rcmpH {l m:Nat} {a b:Rat} (ha:RF l a) (hb:RF m b) (h:l + m < 4000):aF_p FU (Rt a) (Rt b) = some (sgn a b):=by
 have hF:=aA
 have g2:=hb.n.mul ha.d
 rw [Nat.add_comm] at g2
 unfold aF_p Rt
 rw [bL FU l m _ _ ha.n hb.d (by omega) (by omega),aa,bL FU m l _ _ hb.n ha.d (by omega) (by omega),aa]
 unfold ca_p
 rw [ft FU (l + m) _ _ (ha.n.mul hb.d) g2 (by omega) (by omega),aa,bU]
 rfl
theorem Fit.r {l:Nat} {z:Int} (h:Fit l z):FtR (2 * l) z:=by
 unfold FtR
 rw [jQ]
 exact h
theorem iv {l m:Nat} {a b:Rat} (ha:RF l a) (hb:RF m b) (h:l + m < 4000):aX_p FU (RR a) (RR b) = some (RR (a + b)):=by
 have hF:=aA
 obtain ⟨f1,f2⟩:=nM ha hb
 have x1:=ha.n.r.mul hb.d.r
 have x2:=hb.n.r.mul ha.d.r
 have x3:=ha.d.r.mul hb.d.r
 rw [Nat.add_comm] at x2
 have e:=(fW FU (2 * (l + m + 1)) _ _ (dd0 a b) f1.r f2.r (by omega) hF).1
 unfold aX_p RR
 simp only
 rw [aW FU _ _ _ _ ha.n.r hb.d.r (by omega) (by omega),aa,aW FU _ _ _ _ hb.n.r ha.d.r (by omega) (by omega),aa,ie FU _ _ _ x1 x2 (by omega) (by omega),aa,aW FU _ _ _ _ ha.d.r hb.d.r (by omega) (by omega),aa,e,aa,<- mO]
 rfl
theorem nI {l m:Nat} {a b:Rat} (ha:RF l a) (hb:RF m b) (h:l + m < 4000):bY_p FU (RR a) (RR b) = some (RR (a * b)):=by
 have hF:=aA
 have e:=(fW FU (2 * (l + m)) _ _ (dd0 a b) (ha.n.mul hb.n).r (ha.d.mul hb.d).r (by omega) hF).1
 unfold bY_p RR
 simp only
 rw [aW FU _ _ _ _ ha.n.r hb.n.r (by omega) (by omega),aa,aW FU _ _ _ _ ha.d.r hb.d.r (by omega) (by omega),aa,e,aa,<- mL]
 rfl
theorem cZ {l m:Nat} {a b:Rat} (ha:RF l a) (hb:RF m b) (h:l + m < 4000):aJ_p FU (RR a) (RR b) = some (sgn a b):=by
 have hF:=aA
 have x2:=hb.n.r.mul ha.d.r
 rw [Nat.add_comm] at x2
 unfold aJ_p
 rw [show (RR a).fN = R8 a.num from rfl,show (RR a).fD = R8 (a.den:Int) from rfl,show (RR b).fN = R8 b.num from rfl,show (RR b).fD = R8 (b.den:Int) from rfl,
  aW FU _ _ _ _ ha.n.r hb.d.r (by omega) (by omega),aa,aW FU _ _ _ _ hb.n.r ha.d.r (by omega) (by omega),aa,
  mj _ _ _ (ha.n.r.mul hb.d.r) x2 (by omega),aa]
 rfl
open Classical in
theorem pi (q:Rat):ae_p FU (Rt q) = some (if FQ q then (Sg q,0) else (noS,6)):=rtoldG FU q (by have:=aA; omega)
open Classical in
theorem mT {l:Nat} {q:Rat} (h:RF l q) (hl:l < 4000):bj_p FU (RR q) = some (if FQ q then (Sg q,0) else (noS,6)):=cy FU (2 * l) q h.n.r h.d.r (by omega) (by have:=aA; omega)
end Go.Proofs.YtkommhmbkbhmlaaGreat
namespace Go.Proofs.YtkommhmbkbhmlaaGreat
open Go
set_option maxRecDepth 8000
theorem oE (t:T8):∃ z,Fw z/\t = Wg z:=by
 have h1:=oe t
 have h2:=dO
 by_cases h:val (wv t) < HB
 ·refine ⟨(val (wv t):Int),⟨by omega,by omega⟩,gL ?_⟩
  rw [Int.emod_eq_of_lt (by omega) (by omega)]
 ·refine ⟨(val (wv t):Int) - FB,⟨by omega,by omega⟩,gL ?_⟩
  rw [Int.sub_emod_right,Int.emod_eq_of_lt (by omega) (by omega)]
theorem gcd_fit {x y:Int} (hy:Fw y) (h0:0 < y):Fit 8 ((Nat.gcd x.natAbs y.natAbs:Nat):Int):=by
 refine Nat.lt_of_le_of_lt ?_ hy.fit
 rw [Int.natAbs_natCast]
 exact Nat.gcd_le_right _ (by omega)
theorem checkXY (x y:Int) (hx:Fw x) (hy:Fw y):bP_p FU ⟨Wg x,Wg y⟩ = some (if 0 < y/\Nat.gcd x.natAbs y.natAbs = 1 then 0 else 20):=by
 have hF:=aA
 have hr:al_p FU ⟨Wg x,Wg y⟩ = some ⟨L x,L y⟩:=by
  unfold al_p
  simp only
  rw [gw FU _ hx (by omega),aa,gw FU _ hy (by omega),aa]
 unfold bP_p
 rw [gy FU 1 (by unfold Sm; decide) (by omega),aa,hr,aa]
 simp only
 rw [bU,aa]
 by_cases h0:0 < y
 ·rw [Int.sign_eq_one_of_pos h0,if_neg (by decide),jP FU 8 _ _ hx.fit hy.fit (by decide) hF,aa]
  unfold ca_p
  rw [ft FU 8 _ _ (gcd_fit hy h0) (by unfold Fit; decide) (by omega) (by decide),aa,bU,aa]
  by_cases hg:Nat.gcd x.natAbs y.natAbs = 1
  ·rw [aa,if_pos (show (((Nat.gcd x.natAbs y.natAbs:Nat):Int) - 1).sign = 0 from by rw [hg]; rfl),if_pos ⟨h0,hg⟩]
  ·have:(((Nat.gcd x.natAbs y.natAbs:Nat):Int) - 1).sign ≠ 0:=fun e=>by
    have:=Int.sign_eq_zero_iff_zero.1 e; omega
   rw [if_neg fun h=>hg h.2,aa,if_neg this]
 ·have hs:y.sign <= 0:=by
   rcases Int.lt_trichotomy y 0 with h | h | h
   ·rw [Int.sign_eq_neg_one_of_neg h]; decide
   ·rw [h]; decide
   ·omega
  rw [if_pos hs,if_neg fun h=>h0 h.1]
theorem bY (s:Tb):(∃ q,FQ q/\s = Sg q) ∨ (bP_p FU s = some 20/\aR_p FU s = some false):=by
 obtain ⟨a,b⟩:=s
 obtain ⟨x,hx,rfl⟩:=oE a
 obtain ⟨y,hy,rfl⟩:=oE b
 have c1:=checkXY x y hx hy
 have c2:=ji FU x y hx hy aA
 by_cases h:0 < y/\Nat.gcd x.natAbs y.natAbs = 1
 ·refine .inl ?_
  obtain ⟨m,rfl⟩:∃ m:Nat,y = (m:Int):=⟨y.toNat,by omega⟩
  have hn:(Rat.mk' x m (by omega) h.2).num = x:=rfl
  exact ⟨Rat.mk' x m (by omega) h.2,⟨hx,hy⟩,rfl⟩
 ·rw [if_neg h] at c1
  rw [decide_eq_false h] at c2
  exact .inr ⟨c1,c2⟩
structure Gd (T:List (Rat × Rat)):Prop where
 fq:∀ e ∈ T,FQ e.1/\FQ e.2
 pos:∀ e ∈ T,0 < e.2
 up:Up T
def ge (xs:List Ta):Prop:=∃ T:List (Rat × Rat),xs = T.map ms/\Gd T
def Okm (xs:List Ta):Prop:=∃ T:List (Rat × Rat),xs = T.map ms/\Gd T/\sW T = 1/\0 < T.length
theorem Gd.snoc {T:List (Rat × Rat)} {e:Rat × Rat} (h:Gd T) (fe:FQ e.1/\FQ e.2) (pe:0 < e.2) (hl:∀ x ∈ T,x.1 < e.1):Gd (T ++ [e]):=by
 refine ⟨fun x hx=>?_,fun x hx=>?_,?_⟩
 ·rcases List.mem_append.1 hx with hx | hx
  ·exact h.fq x hx
  ·rw [List.mem_singleton.1 hx]; exact fe
 ·rcases List.mem_append.1 hx with hx | hx
  ·exact h.pos x hx
  ·rw [List.mem_singleton.1 hx]; exact pe
 ·unfold Up
  rw [List.pairwise_append]
  refine ⟨h.up,List.pairwise_singleton ..,fun a ha b hb=>?_⟩
  rw [List.mem_singleton.1 hb]
  exact Rat.not_le.2 (hl a ha)
theorem mn {T:List (Rat × Rat)} (h:Up T) {i:Nat} (hi:i + 1 = T.length) {x:Rat} (hx:(T[i]'(by omega)).1 < x):∀ y ∈ T,y.1 < x:=fun y hy=>by
 obtain ⟨j,hj,rfl⟩:=List.getElem_of_mem hy
 by_cases c:j = i
 ·subst c; exact hx
 ·have:=oq h (show i < T.length by omega) (show j < i by omega)
  grind
theorem iz {q:Rat} (h:FQ q):bP_p FU (Sg q) = some 0:=checkG FU q h aA
theorem check2 (xs:List Ta) (hn:xs.length <= 400):(ge xs/\am (aL_l2 FU xs) FU 0 = some (.inr ())) ∨ (¬ ge xs/\am (aL_l2 FU xs) FU 0 = some (.inl 50)):=by
 have hF:=aA
 have hh:=av (B:=aL_l2 FU xs) (fun i:Nat=>xs.length - i) (fun i=>i <= xs.length/\ge (xs.take i)) (fun r=>(ge xs/\r = .inr ()) ∨ (¬ ge xs/\r = .inl 50)) ?_ FU 0 ⟨Nat.zero_le _,[],rfl,⟨by simp,by simp,List.Pairwise.nil⟩⟩ (by omega)
 ·obtain ⟨r,e,h | h⟩:=hh
  ·exact .inl ⟨h.1,by rw [e,h.2]⟩
  ·exact .inr ⟨h.1,by rw [e,h.2]⟩
 ·rintro i J ⟨hi,hg⟩ hJ
  unfold aL_l2 jn
  simp only
  by_cases c:i < xs.length
  ·have hat:∀ T:List (Rat × Rat),xs = T.map ms -> ∃ h:i < T.length,xs[i] = ms T[i]:=fun T e=>by
    have hl:i < T.length:=by rw [e,List.length_map] at c; exact c
    exact ⟨hl,by simp only [e,List.getElem_map]⟩
   have bad:¬ ge xs -> ∃ r,some (Sum.inl 50) = some r/\((ge xs/\r = .inr ()) ∨ (¬ ge xs/\r = (.inl 50:Int ⊕ Unit))):=fun h=>⟨_,rfl,.inr ⟨h,rfl⟩⟩
   rw [if_pos c,geE c,aa]
   rcases bY xs[i].fm with ⟨q,fq,eq⟩ | ⟨e1,_⟩
   ·rw [eq,iz fq,aa,if_pos rfl]
    rcases bY xs[i].fP with ⟨p,fp,ep⟩ | ⟨e1,_⟩
    ·have em:xs[i] = ms (q,p):=by
      rw [show xs[i] = ⟨xs[i].fm,xs[i].fP⟩ from rfl,eq,ep]; rfl
     have hT:∀ T:List (Rat × Rat),xs = T.map ms -> Gd T -> ∃ h:i < T.length,T[i] = (q,p):=fun T e g=>by
      obtain ⟨h,e2⟩:=hat T e
      rw [em] at e2
      exact ⟨h,((gd ⟨fq,fp⟩ (g.fq _ (List.getElem_mem h))).1 e2).symm⟩
     rw [ep,iz fp,aa,if_pos rfl,em,pG (e:=(q,p)) fp,aa,show (Rt (q,p).2).fj = Go.Proofs.YtkommhmbkbhmlaaGreat.L p.num from rfl,bU,aa]
     by_cases cp:0 < p
     ·rw [if_neg (by rw [Int.sign_eq_one_of_pos (numpos cp)]; decide)]
      have next:(∃ T:List (Rat × Rat),xs.take i = T.map ms/\Gd T/\∀ x ∈ T,x.1 < q) -> ge (xs.take (i + 1)):=fun ⟨T,e,g,hl⟩=>by
       refine ⟨T ++ [(q,p)],?_,g.snoc ⟨fq,fp⟩ cp hl⟩
       rw [List.take_succ_eq_append_getElem c,e,em,List.map_append]; rfl
      obtain ⟨T,e,g⟩:=hg
      have hlen:T.length = i:=by
       have:=congrArg List.length e
       rw [List.length_take,List.length_map] at this
       omega
      by_cases c0:0 < i
      ·have hi1:i - 1 < T.length:=by omega
       have e3:xs[i - 1]? = some (ms T[i - 1]):=by
        have h1:(xs.take i)[i - 1]? = xs[i - 1]?:=List.getElem?_take_of_lt (by omega)
        rw [<- h1,e,List.getElem?_map,geE hi1]; rfl
       have f1:=(g.fq _ (List.getElem_mem hi1)).1
       rw [if_pos c0,e3,aa,show (ms T[i - 1]).fm = Sg T[i - 1].1 from rfl,cW FU _ f1 (by omega),aa,cW FU _ fq (by omega),aa,rcmpG f1 fq,aa]
       by_cases cl:T[i - 1].1 < q
       ·have hs:=eZ.2 cl
        rw [if_neg (by rw [decide_eq_true_iff]; omega)]
        exact hJ (i + 1) ⟨c,next ⟨T,e,g,mn g.up (show i - 1 + 1 = T.length by omega) cl⟩⟩ (by omega)
       ·rw [if_pos (by rw [decide_eq_true_iff]; exact Int.not_lt.1 fun hc=>cl (eZ.1 hc))]
        refine bad fun ⟨U,eU,gU⟩=>cl ?_
        obtain ⟨h,e4⟩:=hT U eU gU
        have hu:=oq gU.up h (show i - 1 < i by omega)
        have e5:U[i - 1]'(by omega) = T[i - 1]:=by
         have h1:xs[i - 1]? = some (ms (U[i - 1]'(by omega))):=by
          rw [eU,List.getElem?_map,geE (by omega)]; rfl
         rw [e3] at h1
         injection h1 with h1
         exact ((gd (g.fq _ (List.getElem_mem hi1)) (gU.fq _ (List.getElem_mem _))).1 h1).symm
        rw [e5,e4] at hu
        exact hu
      ·rw [if_neg c0,if_neg (by decide)]
       refine hJ (i + 1) ⟨c,next ⟨T,e,g,fun x hx=>?_⟩⟩ (by omega)
       rw [List.eq_nil_of_length_eq_zero (show T.length = 0 by omega)] at hx
       cases hx
     ·have hs:p.num.sign <= 0:=by
       rcases Int.lt_trichotomy p.num 0 with h | h | h
       ·rw [Int.sign_eq_neg_one_of_neg h]; decide
       ·rw [h]; decide
       ·exact absurd (numpos2 h) cp
      rw [if_pos hs,if_pos trivial]
      refine bad fun ⟨U,eU,gU⟩=>cp ?_
      obtain ⟨h,e4⟩:=hT U eU gU
      have:=gU.pos _ (List.getElem_mem h)
      rwa [e4] at this
    ·rw [e1,aa,if_neg (by decide),if_pos trivial]
     refine bad fun ⟨U,eU,gU⟩=>?_
     obtain ⟨h,e4⟩:=hat U eU
     rw [e4,show (ms U[i]).fP = Sg U[i].2 from rfl,iz (gU.fq _ (List.getElem_mem h)).2] at e1
     cases e1
   ·rw [e1,aa,if_neg (by decide),if_pos trivial]
    refine bad fun ⟨U,eU,gU⟩=>?_
    obtain ⟨h,e4⟩:=hat U eU
    rw [e4,show (ms U[i]).fm = Sg U[i].1 from rfl,iz (gU.fq _ (List.getElem_mem h)).1] at e1
    cases e1
  ·rw [if_neg c]
   refine ⟨_,rfl,.inl ⟨?_,rfl⟩⟩
   rwa [List.take_of_length_le (by omega)] at hg
end Go.Proofs.YtkommhmbkbhmlaaGreat
namespace Go.Proofs.YtkommhmbkbhmlaaGreat
open Go
set_option maxRecDepth 8000
theorem iE {T:List (Rat × Rat)} (h:∀ e ∈ T,FQ e.1/\FQ e.2) (hn:T.length <= 60):∀ i,i <= T.length -> RF (9 * i + 8) (sW (T.take i))
 | 0,_=>FQ0.rf
 | i + 1,hi=>by
  have ih:=iE h hn i (by omega)
  have hp:=(iY ih (h _ (List.getElem_mem (show i < T.length by omega))).2.rf (by omega)).2
  rw [mW (by omega)]
  exact hp.mono (by omega)
theorem check1 {T:List (Rat × Rat)} (h:∀ e ∈ T,FQ e.1/\FQ e.2) (hn:T.length <= 60):am (aL_l1 FU (T.map ms)) FU (0,eL 0) = some (eL (sW T)):=by
 have hF:=aA
 have hh:=av (B:=aL_l1 FU (T.map ms)) (fun s=>T.length - s.1) (fun s=>∃ i,i <= T.length/\s = (i,eL (sW (T.take i)))) (fun r=>r = eL (sW T)) ?_ FU (0,eL 0) ⟨0,Nat.zero_le _,rfl⟩ (by simp only; omega)
 ·obtain ⟨r,e,rfl⟩:=hh
  exact e
 ·rintro s J ⟨i,hi,rfl⟩ hJ
  unfold aL_l1 eL
  simp only
  by_cases c:i < T.length
  ·have f:=h _ (List.getElem_mem c)
   rw [if_pos (by simpa using c),geE (by simpa using c),aa,List.getElem_map,pG f.2,aa]
   rw [show (⟨⟨(Rt (sW (T.take i))).fj.fc,(Rt (sW (T.take i))).fj.fk⟩,⟨(Rt (sW (T.take i))).fh.fc,(Rt (sW (T.take i))).fh.fk⟩⟩:Tc) = Rt (sW (T.take i)) from rfl,(iY (iE h hn i hi) f.2.rf (by omega)).1,aa,<- mW c]
   exact hJ _ ⟨i + 1,c,rfl⟩ (by simp only; omega)
  ·rw [if_neg (by simpa using c)]
   refine ⟨_,rfl,?_⟩
   rw [List.take_of_length_le (by omega)]
open Classical in
theorem kQ (xs:List Ta) (hn:xs.length <= 60):aL_p FU xs = some (if Okm xs then 0 else 50):=by
 have hF:=aA
 unfold aL_p
 by_cases h0:xs.length < 1
 ·rw [if_pos h0,if_neg]
  rintro ⟨T,rfl,_,_,hT⟩
  rw [List.length_map] at h0
  omega
 ·rw [if_neg h0,if_neg (by omega)]
  rcases check2 xs (by omega) with ⟨⟨T,rfl,g⟩,e⟩ | ⟨hb,e⟩
  ·rw [List.length_map] at hn h0
   have hs:=iE g.fq hn T.length (Nat.le_refl _)
   rw [List.take_length] at hs
   rw [e]
   show ((aD_p FU 0).bind fun y303=>Option.bind (am (aL_l1 FU (T.map ms)) FU (0,y303.fj.fc,y303.fj.fk,y303.fh.fc,y303.fh.fk)) _) = _
   rw [from0,aa]
   show Option.bind (am (aL_l1 FU (T.map ms)) FU (0,eL 0)) _ = _
   rw [check1 g.fq hn,aa]
   show ((aD_p FU 1).bind fun y506=>(aF_p FU (Rt (sW T)) y506).bind fun y516=>if y516 = 0 then some 0 else some 50) = _
   rw [from1,aa,rcmpH hs FQ1.rf (by omega),aa]
   by_cases c:sW T = 1
   ·rw [if_pos (bc.2 c),if_pos ⟨T,rfl,g,c,by omega⟩]
   ·rw [if_neg fun hc=>c (bc.1 hc),if_neg]
    rintro ⟨U,eU,gU,hU,_⟩
    have:T = U:=by
     have hl:=congrArg List.length eU
     rw [List.length_map,List.length_map] at hl
     refine List.ext_getElem hl fun i h1 h2=>?_
     have h3:(T.map ms)[i]? = (U.map ms)[i]?:=by rw [eU]
     rw [List.getElem?_map,List.getElem?_map,geE h1,geE h2] at h3
     injection h3 with h3
     exact (gd (g.fq _ (List.getElem_mem h1)) (gU.fq _ (List.getElem_mem h2))).1 h3
    rw [this] at c
    exact c hU
  ·rw [e,if_neg fun ⟨T,e1,g,_⟩=>hb ⟨T,e1,g⟩]
   rfl
end Go.Proofs.YtkommhmbkbhmlaaGreat
namespace Go.Proofs.YtkommhmbkbhmlaaGreat
open Go
set_option maxRecDepth 8000
def dc (q:Rat):Bool × List Int × Bool × List Int:=((RR q).fN.fc,(RR q).fN.fD,(RR q).fD.fc,(RR q).fD.fD)
theorem nP:bE_p FU = some (RR 0):=by
 unfold bE_p
 rw [iy (by unfold Sm; decide) (by unfold Sm; decide) (by decide),aa]; rfl
theorem oneR:bS_p FU = some (RR 1):=by
 unfold bS_p
 rw [iy (by unfold Sm; decide) (by unfold Sm; decide) (by decide),aa]; rfl
theorem iJ {q:Rat} (h:FQ q):aR_p FU (Sg q) = some true:=gr FU q h aA
theorem inS {q:Rat} (h:FQ q):aG_p FU (Sg q) = some (RR q):=kV FU q h (by have:=aA; omega)
theorem right1 (xs:List Ta) (hn:xs.length <= 60):(∃ T:List (Rat × Rat),xs = T.map ms/\Gd T/\am (aS_l1 FU xs) FU (0,dc 0) = some (.inr (dc (sW T)))) ∨ (¬ ge xs/\am (aS_l1 FU xs) FU (0,dc 0) = some (.inl false)):=by
 have hF:=aA
 have hh:=av (B:=aS_l1 FU xs) (fun s=>xs.length - s.1) (fun s=>s.1 <= xs.length/\∃ T:List (Rat × Rat),xs.take s.1 = T.map ms/\Gd T/\s.2 = dc (sW T)) (fun r=>(∃ T:List (Rat × Rat),xs = T.map ms/\Gd T/\r = .inr (dc (sW T))) ∨ (¬ ge xs/\r = .inl false)) ?_ FU (0,dc 0) ⟨Nat.zero_le _,[],rfl,⟨by simp,by simp,List.Pairwise.nil⟩,rfl⟩ (by simp only; omega)
 ·obtain ⟨r,e,⟨T,h1,h2,h3⟩ | h⟩:=hh
  ·exact .inl ⟨T,h1,h2,by rw [e,h3]⟩
  ·exact .inr ⟨h.1,by rw [e,h.2]⟩
 ·rintro ⟨i,s⟩ J ⟨hi,T,e,g,hs⟩ hJ
  simp only at hi e hs hJ
  subst hs
  unfold aS_l1 dc
  simp only
  by_cases c:i < xs.length
  ·have hat:∀ U:List (Rat × Rat),xs = U.map ms -> ∃ h:i < U.length,xs[i] = ms U[i]:=fun U eU=>by
    have hl:i < U.length:=by rw [eU,List.length_map] at c; exact c
    exact ⟨hl,by simp only [eU,List.getElem_map]⟩
   have bad:¬ ge xs -> ∃ r,some (Sum.inl false) = some r/\((∃ T:List (Rat × Rat),xs = T.map ms/\Gd T/\r = .inr (dc (sW T))) ∨ (¬ ge xs/\r = (.inl false:Bool ⊕ (Bool × List Int × Bool × List Int)))):=fun h=>⟨_,rfl,.inr ⟨h,rfl⟩⟩
   have hlen:T.length = i:=by
    have:=congrArg List.length e
    rw [List.length_take,List.length_map] at this
    omega
   rw [if_pos c,geE c,aa]
   rcases bY xs[i].fm with ⟨q,fq,eq⟩ | ⟨e0,e1⟩
   ·rw [eq,iJ fq,aa,if_pos rfl]
    rcases bY xs[i].fP with ⟨p,fp,ep⟩ | ⟨e0,e1⟩
    ·have em:xs[i] = ms (q,p):=by
      rw [show xs[i] = ⟨xs[i].fm,xs[i].fP⟩ from rfl,eq,ep]; rfl
     have hT:∀ U:List (Rat × Rat),xs = U.map ms -> Gd U -> ∃ h:i < U.length,U[i] = (q,p):=fun U eU g=>by
      obtain ⟨h,e2⟩:=hat U eU
      rw [em] at e2
      exact ⟨h,((gd ⟨fq,fp⟩ (g.fq _ (List.getElem_mem h))).1 e2).symm⟩
     rw [ep,iJ fp,aa,if_pos rfl,inS fp,aa,nP,aa,cZ fp.rf FQ0.rf (by omega),aa]
     by_cases cp:0 < p
     ·rw [if_neg (by have:=dZ.2 cp; omega)]
      have next:(∀ x ∈ T,x.1 < q) -> ∃ U:List (Rat × Rat),xs.take (i + 1) = U.map ms/\Gd U/\dc (sW T + p) = dc (sW U):=fun hl=>by
       refine ⟨T ++ [(q,p)],?_,g.snoc ⟨fq,fp⟩ cp hl,?_⟩
       ·rw [List.take_succ_eq_append_getElem c,e,em,List.map_append]; rfl
       ·rw [lK,show sW [(q,p)] = p + 0 from rfl,Rat.add_zero]
      have hr:=iE g.fq (by omega) T.length (Nat.le_refl _)
      rw [List.take_length] at hr
      have hp:=iv hr fp.rf (by omega)
      by_cases c0:0 < i
      ·have hi1:i - 1 < T.length:=by omega
       have e3:xs[i - 1]? = some (ms T[i - 1]):=by
        have h1:(xs.take i)[i - 1]? = xs[i - 1]?:=List.getElem?_take_of_lt (by omega)
        rw [<- h1,e,List.getElem?_map,geE hi1]; rfl
       have f1:=(g.fq _ (List.getElem_mem hi1)).1
       rw [if_pos c0,e3,aa,show (ms T[i - 1]).fm = Sg T[i - 1].1 from rfl,inS f1,aa,inS fq,aa,cZ f1.rf fq.rf (by omega),aa]
       by_cases cl:T[i - 1].1 < q
       ·have hs:=eZ.2 cl
        rw [if_neg (by omega)]
        rw [show (⟨⟨(RR (sW T)).fN.fc,(RR (sW T)).fN.fD⟩,⟨(RR (sW T)).fD.fc,(RR (sW T)).fD.fD⟩⟩:Tg) = RR (sW T) from rfl,hp,aa]
        exact hJ (i + 1,dc (sW T + p)) ⟨c,next (mn g.up (show i - 1 + 1 = T.length by omega) cl)⟩ (by simp only; omega)
       ·rw [if_pos (Int.not_lt.1 fun hc=>cl (eZ.1 hc))]
        refine bad fun ⟨U,eU,gU⟩=>cl ?_
        obtain ⟨h,e4⟩:=hT U eU gU
        have hu:=oq gU.up h (show i - 1 < i by omega)
        have e5:U[i - 1]'(by omega) = T[i - 1]:=by
         have h1:xs[i - 1]? = some (ms (U[i - 1]'(by omega))):=by
          rw [eU,List.getElem?_map,geE (by omega)]; rfl
         rw [e3] at h1
         injection h1 with h1
         exact ((gd (g.fq _ (List.getElem_mem hi1)) (gU.fq _ (List.getElem_mem _))).1 h1).symm
        rw [e5,e4] at hu
        exact hu
      ·rw [if_neg c0]
       rw [show (⟨⟨(RR (sW T)).fN.fc,(RR (sW T)).fN.fD⟩,⟨(RR (sW T)).fD.fc,(RR (sW T)).fD.fD⟩⟩:Tg) = RR (sW T) from rfl,hp,aa]
       refine hJ (i + 1,dc (sW T + p)) ⟨c,next fun x hx=>?_⟩ (by simp only; omega)
       rw [List.eq_nil_of_length_eq_zero (show T.length = 0 by omega)] at hx
       cases hx
     ·rw [if_pos (Int.not_lt.1 fun hc=>cp (dZ.1 hc))]
      refine bad fun ⟨U,eU,gU⟩=>cp ?_
      obtain ⟨h,e4⟩:=hT U eU gU
      have:=gU.pos _ (List.getElem_mem h)
      rwa [e4] at this
    ·rw [e1,aa,if_neg (by decide)]
     refine bad fun ⟨U,eU,gU⟩=>?_
     obtain ⟨h,e4⟩:=hat U eU
     rw [e4,show (ms U[i]).fP = Sg U[i].2 from rfl,iJ (gU.fq _ (List.getElem_mem h)).2] at e1
     cases e1
   ·rw [e1,aa,if_neg (by decide)]
    refine bad fun ⟨U,eU,gU⟩=>?_
    obtain ⟨h,e4⟩:=hat U eU
    rw [e4,show (ms U[i]).fm = Sg U[i].1 from rfl,iJ (gU.fq _ (List.getElem_mem h)).1] at e1
    cases e1
  ·rw [if_neg c]
   refine ⟨_,rfl,.inl ⟨T,?_,g,rfl⟩⟩
   rwa [List.take_of_length_le (by omega)] at e
theorem map_ms {T U:List (Rat × Rat)} (hT:∀ e ∈ T,FQ e.1/\FQ e.2) (hU:∀ e ∈ U,FQ e.1/\FQ e.2) (e:T.map ms = U.map ms):T = U:=by
 have hl:=congrArg List.length e
 rw [List.length_map,List.length_map] at hl
 refine List.ext_getElem hl fun i h1 h2=>?_
 have h3:(T.map ms)[i]? = (U.map ms)[i]?:=by rw [e]
 rw [List.getElem?_map,List.getElem?_map,geE h1,geE h2] at h3
 injection h3 with h3
 exact (gd (hT _ (List.getElem_mem h1)) (hU _ (List.getElem_mem h2))).1 h3
theorem thnr {α β:Type} {K:β -> Option α} {x:β}:thn (some (Sum.inr x)) K = K x:=rfl
open Classical in
theorem kL (xs:List Ta) (hn:xs.length <= 60):aS_p FU xs = some (decide (Okm xs)):=by
 have hF:=aA
 unfold aS_p
 by_cases h0:xs.length < 1
 ·rw [if_pos h0,decide_eq_false]
  rintro ⟨T,rfl,_,_,hT⟩
  rw [List.length_map] at h0
  omega
 ·rw [if_neg h0,if_neg (by omega),nP,aa]
  show thn (am (aS_l1 FU xs) FU (0,dc 0)) _ = _
  rcases right1 xs hn with ⟨T,e1,g,e⟩ | ⟨hb,e⟩
  ·subst e1
   rw [List.length_map] at hn h0
   have hs:=iE g.fq hn T.length (Nat.le_refl _)
   rw [List.take_length] at hs
   rw [e,thnr]
   unfold dc
   dsimp only
   rw [show (⟨⟨(RR (sW T)).fN.fc,(RR (sW T)).fN.fD⟩,⟨(RR (sW T)).fD.fc,(RR (sW T)).fD.fD⟩⟩:Tg) = RR (sW T) from rfl]
   rw [oneR,aa,cZ hs FQ1.rf (by omega),aa]
   congr 1
   refine decide_eq_decide.2 ⟨fun h=>⟨T,rfl,g,bc.1 h,by omega⟩,fun ⟨U,eU,gU,hU,_⟩=>?_⟩
   rw [map_ms g.fq gU.fq eU]
   exact bc.2 hU
  ·rw [e,decide_eq_false fun ⟨T,e1,g,_⟩=>hb ⟨T,e1,g⟩]
   rfl
end Go.Proofs.YtkommhmbkbhmlaaGreat
namespace Go.Proofs.YtkommhmbkbhmlaaGreat
open Go
set_option maxRecDepth 8000
theorem di {σ R:Type} (l:List σ) (P:σ -> Prop) (v:R) (B:(Nat -> Option (R ⊕ Unit)) -> Nat -> Option (R ⊕ Unit)) (hl:l.length < 1000)
  (h0:∀ J i,¬ i < l.length -> B J i = some (.inr ())) (h1:∀ J i (c:i < l.length),P l[i] -> B J i = J (i + 1)) (h2:∀ J i (c:i < l.length),¬ P l[i] -> B J i = some (.inl v)) :
  ((∀ s ∈ l,P s)/\am B FU 0 = some (.inr ())) ∨ (¬ (∀ s ∈ l,P s)/\am B FU 0 = some (.inl v)):=by
 have hF:=aA
 have hh:=av (B:=B) (fun i:Nat=>l.length - i) (fun i=>i <= l.length/\∀ s ∈ l.take i,P s) (fun r=>((∀ s ∈ l,P s)/\r = .inr ()) ∨ (¬ (∀ s ∈ l,P s)/\r = .inl v)) ?_ FU 0 ⟨Nat.zero_le _,fun s hs=>by cases hs⟩ (by omega)
 ·obtain ⟨r,e,h | h⟩:=hh
  ·exact .inl ⟨h.1,by rw [e,h.2]⟩
  ·exact .inr ⟨h.1,by rw [e,h.2]⟩
 ·rintro i J ⟨hi,hp⟩ hJ
  by_cases c:i < l.length
  ·by_cases hq:P l[i]
   ·rw [h1 J i c hq]
    refine hJ (i + 1) ⟨c,fun s hs=>?_⟩ (by omega)
    rw [List.take_succ_eq_append_getElem c] at hs
    rcases List.mem_append.1 hs with hs | hs
    ·exact hp s hs
    ·rw [List.mem_singleton.1 hs]; exact hq
   ·rw [h2 J i c hq]
    exact ⟨_,rfl,.inr ⟨fun hc=>hq (hc _ (List.getElem_mem c)),rfl⟩⟩
  ·rw [h0 J i c]
   refine ⟨_,rfl,.inl ⟨?_,rfl⟩⟩
   rwa [List.take_of_length_le (by omega)] at hp
theorem pr (xs:List Ta) (h:xs.length < 1000):aj_p FU xs xs = some true:=by
 unfold aj_p
 rw [if_pos rfl]
 rcases di xs (fun _=>True) false (aj_l1 FU xs xs) h (fun J i c=>by unfold aj_l1; exact if_neg c)
  (fun J i c _=>by unfold aj_l1; simp only; rw [if_pos c,geE c,aa,aa,if_pos rfl]) (fun J i c hc=>absurd trivial hc) with ⟨_,e⟩ | ⟨hc,_⟩
 ·rw [e]; rfl
 ·exact absurd (fun _ _=>trivial) hc
def Oks (X:List (List Ta)):Prop:=∀ x ∈ X,Okm x
def Shs (w:List Tb):Prop:=∀ s ∈ w,∃ q,FQ q/\s = Sg q
theorem jq {s:Tb} (h:¬ ∃ q,FQ q/\s = Sg q):bP_p FU s = some 20/\aR_p FU s = some false:=(bY s).resolve_left h
theorem ne (w:List Tb) (hw:w.length <= 40):(Shs w/\am (ar_l2 FU w) FU 0 = some (.inr ())) ∨ (¬ Shs w/\am (ar_l2 FU w) FU 0 = some (.inl 20)):=by
 refine di w (fun s=>∃ q,FQ q/\s = Sg q) 20 _ (by omega) (fun J i c=>?_) (fun J i c=>?_) fun J i c h=>?_
 ·unfold ar_l2
  exact if_neg c
 ·rintro ⟨q,fq,e⟩
  unfold ar_l2 cm_p
  simp only
  rw [if_pos c,geE c,aa,e,iz fq]
  rfl
 ·unfold ar_l2 cm_p
  simp only
  rw [if_pos c,geE c,aa,(jq h).1,aa,aa,if_pos (by decide),if_pos (by omega)]
  rfl
open Classical in
theorem ph (X:List (List Ta)) (w:List Tb) (hX:X.length <= 40) (hx:∀ x ∈ X,x.length <= 60) (hw:w.length <= 40):ar_p FU X w = some (if Oks X then if Shs w then 0 else 20 else 50):=by
 unfold ar_p
 rcases di X (fun x=>Okm x) 50 (ar_l3 FU X w) (by omega) (fun J i c=>by unfold ar_l3; exact if_neg c)
  (fun J i c h=>by
   unfold ar_l3 cF_p
   simp only
   rw [if_pos c,geE c,aa,kQ _ (hx _ (List.getElem_mem c)),if_pos h]
   rfl)
  (fun J i c h=>by
   unfold ar_l3 cF_p
   simp only
   rw [if_pos c,geE c,aa,kQ _ (hx _ (List.getElem_mem c)),if_neg h,aa,aa,if_pos (by decide),if_pos (by omega)]
   rfl) with ⟨h,e⟩ | ⟨h,e⟩
 ·rw [e,if_pos (show Oks X from h)]
  show (if (0:Int) <= -1 then some (50:Int) else _) = _
  rw [if_neg (by decide)]
  rcases ne w hw with ⟨k,e2⟩ | ⟨k,e2⟩
  ·rw [e2,if_pos k]; rfl
  ·rw [e2,if_neg k]; rfl
 ·rw [e,if_neg (show ¬ Oks X from h)]; rfl
open Classical in
theorem oksRef (X:List (List Ta)) (hX:X.length <= 40) (hx:∀ x ∈ X,x.length <= 60):(Oks X/\am (ac_l3 FU X) FU 0 = some (.inr ())) ∨ (¬ Oks X/\am (ac_l3 FU X) FU 0 = some (.inl ([],50))):=by
 refine di X (fun x=>Okm x) ([],50) _ (by omega) (fun J i c=>?_) (fun J i c h=>?_) fun J i c h=>?_
 ·unfold ac_l3
  exact if_neg c
 ·unfold ac_l3
  simp only
  rw [if_pos c,geE c,aa,kL _ (hx _ (List.getElem_mem c)),aa,if_pos (decide_eq_true h)]
 ·unfold ac_l3
  simp only
  rw [if_pos c,geE c,aa,kL _ (hx _ (List.getElem_mem c)),aa,if_neg (by rw [decide_eq_false h]; decide)]
open Classical in
theorem nc (w:List Tb) (hw:w.length <= 40):au_p FU w = some (decide (Shs w)):=by
 unfold au_p
 rcases di w (fun s=>∃ q,FQ q/\s = Sg q) false (au_l1 FU w) (by omega) (fun J i c=>by unfold au_l1; exact if_neg c)
  (fun J i c h=>by
   obtain ⟨q,fq,e⟩:=h
   unfold au_l1
   simp only
   rw [if_pos c,geE c,aa,e,iJ fq,aa,if_pos rfl])
  (fun J i c h=>by
   unfold au_l1
   simp only
   rw [if_pos c,geE c,aa,(jq h).2,aa,if_neg (by decide)]) with ⟨h,e⟩ | ⟨h,e⟩
 ·rw [e,decide_eq_true (show Shs w from h)]; rfl
 ·rw [e,decide_eq_false (show ¬ Shs w from h)]; rfl
theorem Shs.lists:∀ {w:List Tb},Shs w -> ∃ ws:List Rat,w = ws.map Sg/\∀ q ∈ ws,FQ q
 | [],_=>⟨[],rfl,fun q hq=>by cases hq⟩
 | s :: w,h=>by
  obtain ⟨q,fq,e⟩:=h s (List.mem_cons_self ..)
  obtain ⟨ws,e2,f⟩:=Shs.lists (w:=w) fun t ht=>h t (List.mem_cons_of_mem _ ht)
  refine ⟨q :: ws,by rw [e,e2]; rfl,fun p hp=>?_⟩
  rcases List.mem_cons.1 hp with rfl | hp
  ·exact fq
  ·exact f p hp
theorem Oks.lists:∀ {X:List (List Ta)},Oks X -> ∃ L:List (List (Rat × Rat)),X = L.map (fun T=>T.map ms)/\∀ T ∈ L,Gd T/\sW T = 1/\0 < T.length
 | [],_=>⟨[],rfl,fun q hq=>by cases hq⟩
 | s :: w,h=>by
  obtain ⟨T,e,g⟩:=h s (List.mem_cons_self ..)
  obtain ⟨L,e2,f⟩:=Oks.lists (X:=w) fun t ht=>h t (List.mem_cons_of_mem _ ht)
  refine ⟨T :: L,by rw [e,e2]; rfl,fun p hp=>?_⟩
  rcases List.mem_cons.1 hp with rfl | hp
  ·exact g
  ·exact f p hp
theorem kD {ws:List Rat} (h:∀ q ∈ ws,FQ q) (hn:ws.length <= 40):∀ i,i <= ws.length -> RF (9 * i + 8) (sq (ws.take i))
 | 0,_=>FQ0.rf
 | i + 1,hi=>by
  have hp:=(iY (kD h hn i (by omega)) (h _ (List.getElem_mem (show i < ws.length by omega))).rf (by omega)).2
  rw [ke (by omega)]
  exact hp.mono (by omega)
theorem sumAny {ws:List Rat} (h:∀ q ∈ ws,FQ q) (hn:ws.length <= 40):am (ai_l6 FU (ws.map Sg)) FU (0,eL 0) = some (eL (sq ws)):=by
 have hF:=aA
 have hh:=av (B:=ai_l6 FU (ws.map Sg)) (fun s=>ws.length - s.1) (fun s=>∃ i,i <= ws.length/\s = (i,eL (sq (ws.take i)))) (fun r=>r = eL (sq ws)) ?_ FU (0,eL 0) ⟨0,Nat.zero_le _,rfl⟩ (by simp only; omega)
 ·obtain ⟨r,e,rfl⟩:=hh
  exact e
 ·rintro s J ⟨i,hi,rfl⟩ hJ
  unfold ai_l6 eL
  simp only
  by_cases c:i < ws.length
  ·have fw:=h _ (List.getElem_mem c)
   rw [if_pos (by simpa using c),geE (by simpa using c),aa,List.getElem_map,cW FU _ fw (by omega),aa]
   rw [show (⟨⟨(Rt (sq (ws.take i))).fj.fc,(Rt (sq (ws.take i))).fj.fk⟩,⟨(Rt (sq (ws.take i))).fh.fc,(Rt (sq (ws.take i))).fh.fk⟩⟩:Tc) = Rt (sq (ws.take i)) from rfl,(iY (kD h hn i hi) fw.rf (by omega)).1,aa,<- ke c]
   exact hJ _ ⟨i + 1,c,rfl⟩ (by simp only; omega)
  ·rw [if_neg (by simpa using c)]
   refine ⟨_,rfl,?_⟩
   rw [List.take_of_length_le (by omega)]
theorem oW {q:Rat}:q.num.sign < 0 ↔ ¬ 0 <= q:=by
 rw [Int.sign_neg_iff,<- Rat.num_nonneg]; omega
theorem negAny {ws:List Rat} (X:List (List Ta)) (h:∀ q ∈ ws,FQ q) (hn:ws.length <= 40):((∀ q ∈ ws,0 <= q)/\am (ai_l7 FU (ws.map Sg) X) FU 0 = some (.inr ())) ∨ (¬ (∀ q ∈ ws,0 <= q)/\am (ai_l7 FU (ws.map Sg) X) FU 0 = some (.inl ([],2))):=by
 have hF:=aA
 refine di ws (fun q=>0 <= q) ([],2) _ (by omega) (fun J i c=>?_) (fun J i c k=>?_) fun J i c k=>?_
 ·unfold ai_l7
  exact if_neg (by simpa using c)
 ·unfold ai_l7 cT_p
  simp only
  rw [if_pos (by simpa using c),geE (by simpa using c),aa,List.getElem_map,cW FU _ (h _ (List.getElem_mem c)) (by omega),aa,show (Rt ws[i]).fj = Go.Proofs.YtkommhmbkbhmlaaGreat.L ws[i].num from rfl,bU,aa,aa,if_neg (by rw [decide_eq_true_iff,oW]; exact fun hc=>hc k)]
 ·unfold ai_l7 cT_p
  simp only
  rw [if_pos (by simpa using c),geE (by simpa using c),aa,List.getElem_map,cW FU _ (h _ (List.getElem_mem c)) (by omega),aa,show (Rt ws[i]).fj = Go.Proofs.YtkommhmbkbhmlaaGreat.L ws[i].num from rfl,bU,aa,aa,if_pos (by rw [decide_eq_true_iff,oW]; exact k),if_pos (by omega)]
  rfl
open Classical in
theorem lz {ws:List Rat} (h:∀ q ∈ ws,FQ q) (hn:ws.length <= 40):aU_p FU (ws.map Sg) = some (decide ((∀ q ∈ ws,0 <= q)/\sq ws = 1)):=by
 have hF:=aA
 have hh:=av (B:=aU_l1 FU (ws.map Sg)) (fun s=>ws.length - s.1) (fun s=>∃ i,i <= ws.length/\s = (i,dc (sq (ws.take i)))/\∀ q ∈ ws.take i,0 <= q) (fun r=>((∀ q ∈ ws,0 <= q)/\r = .inr (dc (sq ws))) ∨ (¬ (∀ q ∈ ws,0 <= q)/\r = .inl false)) ?_ FU (0,dc 0) ⟨0,Nat.zero_le _,rfl,fun s hs=>by cases hs⟩ (by simp only; omega)
 ·unfold aU_p
  rw [nP,aa]
  show thn (am (aU_l1 FU (ws.map Sg)) FU (0,dc 0)) _ = _
  obtain ⟨r,e,⟨k,rfl⟩ | ⟨k,rfl⟩⟩:=hh
  ·have hs:=kD h hn ws.length (Nat.le_refl _)
   rw [List.take_length] at hs
   rw [e,thnr]
   unfold dc
   dsimp only
   rw [show (⟨⟨(RR (sq ws)).fN.fc,(RR (sq ws)).fN.fD⟩,⟨(RR (sq ws)).fD.fc,(RR (sq ws)).fD.fD⟩⟩:Tg) = RR (sq ws) from rfl]
   rw [oneR,aa,cZ hs FQ1.rf (by omega),aa]
   congr 1
   exact decide_eq_decide.2 ⟨fun h=>⟨k,bc.1 h⟩,fun h=>bc.2 h.2⟩
  ·rw [e,decide_eq_false fun hc=>k hc.1]
   rfl
 ·rintro s J ⟨i,hi,rfl,hp⟩ hJ
  unfold aU_l1 dc
  simp only
  by_cases c:i < ws.length
  ·have fw:=h _ (List.getElem_mem c)
   rw [if_pos (by simpa using c),geE (by simpa using c),aa,List.getElem_map,inS fw,aa,show (RR ws[i]).fN.fc = decide (ws[i].num < 0) from rfl]
   by_cases k:0 <= ws[i]
   ·rw [if_neg (by rw [decide_eq_true_iff]; have:=Rat.num_nonneg.2 k; omega)]
    rw [show (⟨⟨(RR (sq (ws.take i))).fN.fc,(RR (sq (ws.take i))).fN.fD⟩,⟨(RR (sq (ws.take i))).fD.fc,(RR (sq (ws.take i))).fD.fD⟩⟩:Tg) = RR (sq (ws.take i)) from rfl,iv (kD h hn i hi) fw.rf (by omega),aa,<- ke c]
    refine hJ _ ⟨i + 1,c,rfl,fun q hq=>?_⟩ (by simp only; omega)
    rw [List.take_succ_eq_append_getElem c] at hq
    rcases List.mem_append.1 hq with hq | hq
    ·exact hp q hq
    ·rw [List.mem_singleton.1 hq]; exact k
   ·rw [if_pos (by rw [decide_eq_true_iff]; have:=mt Rat.num_nonneg.1 k; omega)]
    exact ⟨_,rfl,.inr ⟨fun hc=>k (hc _ (List.getElem_mem c)),rfl⟩⟩
  ·rw [if_neg (by simpa using c)]
   refine ⟨_,rfl,.inl ⟨?_,?_⟩⟩
   ·rwa [List.take_of_length_le (by omega)] at hp
   ·rw [List.take_of_length_le (by omega)]
end Go.Proofs.YtkommhmbkbhmlaaGreat
namespace Go.Proofs.YtkommhmbkbhmlaaGreat
open Go
set_option maxRecDepth 8000
theorem wt_rf {m:Nat} (x:Rat):∀ {W:List (Rat × Rat)},(∀ e ∈ W,RF m e.2) -> (m + 1) * W.length + m + 8 < 4000 -> RF ((m + 1) * W.length + 8) (wt x W)
 | [],_,_=>FQ0.rf
 | e :: l,h,hl=>by
  have e1:(m + 1) * (l.length + 1) = (m + 1) * l.length + (m + 1):=Nat.mul_succ ..
  rw [leC,e1] at hl ⊢
  have ih:=wt_rf x (W:=l) (fun d hd=>h d (List.mem_cons_of_mem _ hd)) (by omega)
  show RF _ ((if e.1 = x then e.2 else 0) + wt x l)
  split
  ·exact (iY (h e (List.mem_cons_self ..)) ih (by omega)).2.mono (by omega)
  ·rw [Rat.zero_add]
   exact ih.mono (by omega)
structure Wh (k m b:Nat) (W:List (Rat × Rat)):Prop where
 key:∀ e ∈ W,RF k e.1
 wts:∀ e ∈ W,RF m e.2
 bnd:(m + 1) * W.length + 8 <= b
 lim:m + b < 4000
 len:W.length <= 100
theorem Wh.gat {k m b:Nat} {W A B D:List (Rat × Rat)} (h:Wh k m b W) (e:W = A ++ B) (g:Gat A D):∀ d ∈ D,RF k d.1/\RF b d.2:=fun d hd=>by
 obtain ⟨h1,h2⟩:=(g.mem d).1 hd
 have hl:(m + 1) * A.length <= (m + 1) * W.length:=Nat.mul_le_mul_left _ (by rw [e,List.length_append]; omega)
 have h3:=h.bnd
 have h4:=h.lim
 refine ⟨?_,?_⟩
 ·obtain ⟨a,ha,e1⟩:=List.mem_map.1 h1
  rw [<- e1]
  exact h.key a (by rw [e]; exact List.mem_append_left _ ha)
 ·rw [h2]
  exact (wt_rf d.1 (fun a ha=>h.wts a (by rw [e]; exact List.mem_append_left _ ha)) (by omega)).mono (by omega)
theorem Gat.fq {A D:List (Rat × Rat)} (g:Gat A D) (h:∀ e ∈ A,FQ e.1):∀ d ∈ D,FQ d.1:=fun d hd=>by
 obtain ⟨h1,_⟩:=(g.mem d).1 hd
 obtain ⟨a,ha,e1⟩:=List.mem_map.1 h1
 rw [<- e1]
 exact h a ha
theorem pcaseH {β:Type} {D:List (Rat × Rat)} {x p:Rat} {m b:Nat} (hx:FQ x) (hp:RF m p) (h1:∀ e ∈ D,FQ e.1) (hD:∀ e ∈ D,RF b e.2) (hl:m + b < 4000) (J:List (Tb × Tc) -> Option β) :
  dY (br (D.map mk2) (Sg x)) (J (aC (D.map mk2) (Sg x) (Rt p))) (fun y=>(aa_p FU (Rt p) y).bind fun z=>J (aC (D.map mk2) (Sg x) z)) = J ((jO D (x,p)).map mk2):=by
 rw [mP hx h1]
 unfold jO
 simp only
 cases hm:br D x with
 | none=>
  show J _ = _
  rw [jM hx _ h1]
 | some o=>
  show ((aa_p FU (Rt p) (Rt o)).bind fun z=>J (aC (D.map mk2) (Sg x) z)) = _
  rw [(iY hp (hD _ (ix hm)) hl).1,aa,jM hx _ h1]
open Classical in
theorem gatherH {X:List Ta × Bool -> Option (List Ta × Int)} {B:Tb × Tc -> (List Ta × Bool -> Option (List Ta × Int)) -> List Ta × Bool -> Option (List Ta × Int)}
  (hX:∀ xs q,X (xs,q) = if q = true then some (([]:List Ta),(6:Int)) else ((bv_p FU (ac ((xs.length:Nat):Int))).bind fun y=>(dU (fun x9 y9=>ah_p FU x9 y9) y xs).bind fun z=>some (z,(0:Int))))
  (hB:∀ e J xs q,B e J (xs,q) = ((ae_p FU e.2).bind fun y861=>jn (fun q876=>(app xs ([(⟨e.1,y861.1⟩:Ta)]:List Ta)).bind fun xs888=>J (xs888,q876)) (fun J880=>(if y861.2 = 0 then J880 q else J880 true))))
  {D U:List (Rat × Rat)} (q0:Bool) (hf:∀ e ∈ D,FQ e.1) (hn:(D.map (·.1)).Nodup) (hu:Up U) (hp:U.Perm D) (hl:D.length < 420) :
  mloop X B FU (D.map mk2) ([],q0) = some (if q0 = false/\∀ e ∈ D,FQ e.2 then (U.map ms,0) else ([],6)):=by
 have hF:=aA
 let cv:Tb × Tc -> Ta:=fun e=>⟨e.1,((ae_p FU e.2).getD (noS,0)).1⟩
 let bd:Tb × Tc -> Bool:=fun e=>decide (((ae_p FU e.2).getD (noS,0)).2 ≠ 0)
 have hcv:∀ e:Rat × Rat,FQ e.2 -> cv (mk2 e) = ms e:=fun e he=>by
  show (⟨Sg e.1,((ae_p FU (Rt e.2)).getD (noS,0)).1⟩:Ta) = _
  rw [pi,if_pos he]; rfl
 have hbd:∀ e:Rat × Rat,bd (mk2 e) = decide (¬ FQ e.2):=fun e=>by
  show decide (((ae_p FU (Rt e.2)).getD (noS,0)).2 ≠ 0) = _
  rw [pi]
  by_cases c:FQ e.2
  ·rw [if_pos c,decide_eq_false (not_not_intro c)]; rfl
  ·rw [if_neg c,decide_eq_true c]; rfl
 refine im (D:=D.map mk2) (fun s e=>(s.1 ++ [cv e],s.2 || bd e)) (fun k s=>s.1.length + k <= 1000) _ ?_ FU (D.map mk2) ([],q0) (by rw [List.length_map]; omega) (fun e he=>he) (by rw [List.length_map]; show 0 + _ <= _; omega) fun l' hl' =>?_
 ·rintro k e J ⟨xs,q⟩ h2 he
  simp only at h2
  obtain ⟨d,hd,rfl⟩:=List.mem_map.1 he
  refine ⟨?_,by simp only [List.length_append,leC,leN]; omega⟩
  have e1:ae_p FU (mk2 d).2 = some ((cv (mk2 d)).fP,if FQ d.2 then 0 else 6):=by
   show ae_p FU (Rt d.2) = some (((ae_p FU (Rt d.2)).getD (noS,0)).1,_)
   rw [pi]
   by_cases c:FQ d.2
   ·rw [if_pos c,if_pos c]; rfl
   ·rw [if_neg c,if_neg c]; rfl
  rw [hB,e1,aa]
  have e2:∀ q', (app xs ([(⟨(mk2 d).1,(cv (mk2 d)).fP⟩:Ta)]:List Ta)).bind (fun xs888=>J (xs888,q')) = J (xs ++ [cv (mk2 d)],q'):=fun q' =>by
   rw [bz _ _ (by simp only [leC,leN]; omega),aa]
  unfold jn
  simp only
  by_cases c:FQ d.2
  ·rw [if_pos (by rw [if_pos c]),e2,hbd,decide_eq_false (not_not_intro c),Bool.or_false]
  ·rw [if_neg (by rw [if_neg c]; decide),e2,hbd,decide_eq_true c,Bool.or_true]
 ·have hfold:∀ (l:List (Tb × Tc)) (xs:List Ta) (q:Bool),l.foldl (fun s e=>(s.1 ++ [cv e],s.2 || bd e)) (xs,q) = (xs ++ l.map cv,q || l.any bd):=by
   intro l
   induction l with
   | nil=>intro xs q; simp
   | cons e l ih=>intro xs q; rw [List.foldl_cons,ih]; simp [Bool.or_assoc]
  have hany:l'.any bd = (D.map mk2).any bd:=by
   rw [Bool.eq_iff_iff,List.any_eq_true,List.any_eq_true]
   exact ⟨fun ⟨x,h1,h2⟩=>⟨x,hl'.mem_iff.1 h1,h2⟩,fun ⟨x,h1,h2⟩=>⟨x,hl'.mem_iff.2 h1,h2⟩⟩
  rw [hfold,hX,hany]
  by_cases c:q0 = false/\∀ e ∈ D,FQ e.2
  ·have:(D.map mk2).any bd = false:=by
    rw [Bool.eq_false_iff]
    intro hc
    obtain ⟨x,h1,h2⟩:=List.any_eq_true.1 hc
    obtain ⟨d,hd,rfl⟩:=List.mem_map.1 h1
    rw [hbd] at h2
    exact of_decide_eq_true h2 (c.2 d hd)
   rw [this,c.1,if_neg (by decide),if_pos ⟨rfl,c.2⟩]
   refine sort_ms hf hn ?_ hu hp hl
   refine (hl'.map cv).trans (.of_eq ?_)
   rw [List.map_map]
   exact List.map_congr_left fun e he=>hcv e (c.2 e he)
  ·have:(q0 || (D.map mk2).any bd) = true:=by
    cases hq:q0 with
    | true=>rfl
    | false=>
     rw [Bool.false_or,List.any_eq_true]
     refine Classical.byContradiction fun hc=>c ⟨hq,fun e he=>Classical.byContradiction fun h=>hc ⟨mk2 e,List.mem_map.2 ⟨e,he,rfl⟩,?_⟩⟩
     rw [hbd]
     exact decide_eq_true h
   rw [this,if_pos rfl,if_neg c]
theorem lV (A:List (Rat × Rat)) (e:Rat × Rat):cO (A ++ [e]) = bj e.1 e.2 (cO A):=by
 unfold cO
 rw [List.foldl_append]; rfl
theorem putH {k b m:Nat} {T:List (Rat × Rat)} {x p:Rat} (hT:∀ e ∈ T,RF k e.1/\RF b e.2) (hx:RF k x) (hp:RF m p) (hk:k + k < 4000) (hb:m + b < 4000) (hl:T.length < 1000):aO_p FU (T.map mr) (RR x) (RR p) = some ((bj x p T).map mr):=by
 have hF:=aA
 have hh:=av (B:=aO_l1 FU (T.map mr) (RR x) (RR p)) (fun s:Bool × Nat × List Td=>T.length - s.2.1)
  (fun s=>s.2.1 <= T.length/\s.2.2.length <= s.2.1 + (if s.1 = true then 1 else 0)/\s.2.2 ++ (if s.1 = true then (T.drop s.2.1).map mr else (bj x p (T.drop s.2.1)).map mr) = (bj x p T).map mr)
  (fun r=>r.2.length <= T.length + 1/\(if r.1 = true then r.2 else r.2 ++ [mr (x,p)]) = (bj x p T).map mr) ?_ FU (false,0,[]) ⟨Nat.zero_le _,by simp,by simp⟩ (by simp only; omega)
 ·obtain ⟨⟨q,xs⟩,e,h1,h2⟩:=hh
  unfold aO_p
  rw [e,aa]
  simp only at h1 h2 ⊢
  by_cases hq:q = true
  ·rw [if_pos hq]; rw [if_pos hq] at h2; rw [h2]
  ·rw [if_neg hq]; rw [if_neg hq] at h2
   rw [bz _ _ (by simp only [leC,leN]; omega),aa]
   exact congrArg some h2
 ·rintro ⟨q,i,xs⟩ J ⟨h1,h2,h3⟩ hJ
  simp only at h1 h2 h3 hJ
  have h2' : xs.length <= i + 1:=by split at h2 <;> omega
  unfold aO_l1
  simp only
  by_cases h0:i < T.length
  ·obtain ⟨f1,f2⟩:=hT T[i] (List.getElem_mem _)
   rw [if_pos (by simpa using h0),geE (by simpa using h0),aa,List.getElem_map]
   rw [List.drop_eq_getElem_cons h0] at h3
   rw [show (mr T[i]).fm = RR T[i].1 from rfl,cZ f1 hx hk,aa]
   by_cases hq:q = true
   ·rw [if_pos hq] at h2 h3 ⊢
    rw [bz _ _ (by simp only [leC,leN]; omega),aa]
    refine hJ (q,i + 1,_) ⟨h0,by simp only [List.length_append,leC,leN,if_pos hq]; omega,?_⟩ (by simp only; omega)
    simp only
    rw [if_pos hq,<- h3,List.append_assoc]; rfl
   ·rw [if_neg hq] at h2 h3 ⊢
    rw [bj] at h3
    by_cases c1:T[i].1 = x
    ·rw [if_pos (bc.2 c1)]
     rw [if_pos c1] at h3
     rw [show (mr T[i]).fP = RR T[i].2 from rfl,iv f2 hp (by omega),aa,bz _ _ (by simp only [leC,leN]; omega),aa]
     refine hJ (true,i + 1,_) ⟨h0,by simp only [List.length_append,leC,leN,if_true]; omega,?_⟩ (by simp only; omega)
     simp only
     rw [if_pos trivial,<- h3]; simp [mr]
    ·rw [if_neg (fun hc=>c1 (bc.1 hc))]
     rw [if_neg c1] at h3
     unfold jn
     simp only
     by_cases c2:x < T[i].1
     ·rw [if_pos (dZ.2 c2)]
      rw [if_pos c2] at h3
      rw [bz _ _ (by simp only [leC,leN]; omega),aa]
      rw [bz _ _ (by simp only [List.length_append,leC,leN]; omega),aa]
      refine hJ (true,i + 1,_) ⟨h0,by simp only [List.length_append,leC,leN,if_true]; omega,?_⟩ (by simp only; omega)
      simp only
      rw [if_pos trivial,<- h3,List.append_assoc,List.append_assoc]; rfl
     ·rw [if_neg (fun hc=>c2 (dZ.1 hc))]
      rw [if_neg c2] at h3
      rw [bz _ _ (by simp only [leC,leN]; omega),aa]
      refine hJ (q,i + 1,_) ⟨h0,by simp only [List.length_append,leC,leN,if_neg hq]; omega,?_⟩ (by simp only; omega)
      simp only
      rw [if_neg hq,<- h3]; simp
  ·have hi:i = T.length:=by omega
   rw [if_neg (by simpa using h0)]
   refine ⟨_,rfl,?_⟩
   simp only
   rw [hi,List.drop_length] at h3
   refine ⟨by omega,?_⟩
   by_cases hq:q = true
   ·rw [if_pos hq] at h3 ⊢; simpa using h3
   ·rw [if_neg hq] at h3 ⊢; simpa [bj] using h3
open Classical in
theorem outRef {k b:Nat} {Z:List (Rat × Rat)} (hZ:∀ e ∈ Z,RF k e.1/\RF b e.2) (hk:k < 4000) (hb:b < 4000) (hl:Z.length <= 400):aP_p FU (Z.map mr) = some (if ∀ e ∈ Z,FQ e.1/\FQ e.2 then (Z.map ms,0) else ([],6)):=by
 have hF:=aA
 have hh:=av (B:=aP_l1 FU (Z.map mr)) (fun s=>Z.length - s.1) (fun s=>∃ i,i <= Z.length/\s = (i,(Z.take i).map ms)/\∀ e ∈ Z.take i,FQ e.1/\FQ e.2) (fun r=>((∀ e ∈ Z,FQ e.1/\FQ e.2)/\r = .inr (Z.map ms)) ∨ (¬ (∀ e ∈ Z,FQ e.1/\FQ e.2)/\r = .inl ([],6))) ?_ FU (0,[]) ⟨0,Nat.zero_le _,rfl,fun s hs=>by cases hs⟩ (by simp only; omega)
 ·unfold aP_p
  rw [if_neg (by rw [List.length_map]; omega)]
  obtain ⟨r,e,⟨h,rfl⟩ | ⟨h,rfl⟩⟩:=hh
  ·rw [e,if_pos h]; rfl
  ·rw [e,if_neg h]; rfl
 ·rintro s J ⟨i,hi,rfl,hp⟩ hJ
  unfold aP_l1
  simp only
  by_cases c:i < Z.length
  ·obtain ⟨f1,f2⟩:=hZ _ (List.getElem_mem c)
   rw [if_pos (by simpa using c),geE (by simpa using c),aa,List.getElem_map,show (mr Z[i]).fm = RR Z[i].1 from rfl,show (mr Z[i]).fP = RR Z[i].2 from rfl,mT f1 hk,aa,mT f2 hb,aa]
   by_cases c1:FQ Z[i].1
   ·by_cases c2:FQ Z[i].2
    ·rw [if_pos c1,if_pos c2,if_pos rfl,if_pos rfl,bz _ _ (by simp only [List.length_map,List.length_take,leC,leN]; omega),aa]
     refine hJ _ ⟨i + 1,c,?_,fun e he=>?_⟩ (by simp only; omega)
     ·rw [List.take_succ_eq_append_getElem c,List.map_append]; rfl
     ·rw [List.take_succ_eq_append_getElem c] at he
      rcases List.mem_append.1 he with he | he
      ·exact hp e he
      ·rw [List.mem_singleton.1 he]; exact ⟨c1,c2⟩
    ·rw [if_pos c1,if_neg c2,if_pos rfl,if_neg (by decide)]
     exact ⟨_,rfl,.inr ⟨fun hc=>c2 (hc _ (List.getElem_mem c)).2,rfl⟩⟩
   ·rw [if_neg c1,if_neg (by decide)]
    exact ⟨_,rfl,.inr ⟨fun hc=>c1 (hc _ (List.getElem_mem c)).1,rfl⟩⟩
  ·rw [if_neg (by simpa using c)]
   refine ⟨_,rfl,.inl ⟨?_,?_⟩⟩
   ·rwa [List.take_of_length_le (by omega)] at hp
   ·rw [List.take_of_length_le (by omega)]
end Go.Proofs.YtkommhmbkbhmlaaGreat
namespace Go.Proofs.YtkommhmbkbhmlaaGreat
open Go
set_option maxRecDepth 8000
theorem fx:∀ {L:List (List (Rat × Rat))} {ws:List Rat} {e:Rat × Rat},e ∈ bP L ws -> ∃ T ∈ L,∃ w ∈ ws,∃ d ∈ T,e = (d.1,d.2 * w)
 | [],_,_,h=>by cases h
 | _ :: _,[],_,h=>by cases h
 | T :: L,w :: ws,e,h=>by
  rcases List.mem_append.1 (show e ∈ wp w T ++ bP L ws from h) with h | h
  ·unfold wp at h
   split at h
   ·cases h
   ·obtain ⟨d,hd,e1⟩:=List.mem_map.1 h
    exact ⟨T,List.mem_cons_self ..,w,List.mem_cons_self ..,d,hd,e1.symm⟩
  ·obtain ⟨T', h1,w', h2,d,h3,h4⟩:=fx h
   exact ⟨T', List.mem_cons_of_mem _ h1,w', List.mem_cons_of_mem _ h2,d,h3,h4⟩
theorem lg {n:Nat}:∀ {L:List (List (Rat × Rat))} {ws:List Rat},(∀ T ∈ L,T.length <= n) -> (bP L ws).length <= n * L.length
 | [],_,_=>Nat.zero_le _
 | _ :: _,[],_=>Nat.zero_le _
 | T :: L,w :: ws,h=>by
  have ih:=lg (L:=L) (ws:=ws) fun t ht=>h t (List.mem_cons_of_mem _ ht)
  have h1:=h T (List.mem_cons_self ..)
  have h2:(wp w T).length <= T.length:=by
   unfold wp
   split
   ·exact Nat.zero_le _
   ·exact Nat.le_of_eq (jZ w T)
  show (wp w T ++ bP L ws).length <= n * (L.length + 1)
  rw [List.length_append,Nat.mul_succ]
  omega
theorem zeroW {w:Rat}:ci_p FU (RR w) = some (decide (w = 0)):=by
 unfold ci_p
 congr 1
 refine decide_eq_decide.2 ?_
 rw [show (RR w).fN.fD = rd w.num.natAbs from rfl,List.length_eq_zero_iff,ko,Int.natAbs_eq_zero,Rat.num_eq_zero]
structure Mx (L:List (List (Rat × Rat))) (ws:List Rat):Prop where
 fq:∀ T ∈ L,∀ e ∈ T,FQ e.1/\FQ e.2
 fw:∀ q ∈ ws,FQ q
 ln:∀ T ∈ L,T.length <= 9
 eq:L.length = ws.length
 l4:ws.length <= 4
theorem Mx.wh {L:List (List (Rat × Rat))} {ws:List Rat} (h:Mx L ws):Wh 8 16 700 (bP L ws):=by
 have hl:=lg (ws:=ws) h.ln
 have h4:=h.l4
 have he:=h.eq
 refine ⟨fun e h1=>?_,fun e h1=>?_,by omega,by omega,by omega⟩
 ·obtain ⟨T,hT,w,hw,d,hd,rfl⟩:=fx h1
  exact (h.fq T hT d hd).1.rf
 ·obtain ⟨T,hT,w,hw,d,hd,rfl⟩:=fx h1
  exact (lY (h.fq T hT d hd).2.rf (h.fw w hw).rf (by omega)).2
theorem Mx.key {L:List (List (Rat × Rat))} {ws:List Rat} (h:Mx L ws):∀ e ∈ bP L ws,FQ e.1:=fun e h1=>by
 obtain ⟨T,hT,w,hw,d,hd,rfl⟩:=fx h1
 exact (h.fq T hT d hd).1
theorem mixI {T W A B:List (Rat × Rat)} {w:Rat} {k b:Nat} (hW:Wh k 16 b W) (hk:∀ e ∈ W,FQ e.1) (e:W = A ++ (sc w T ++ B)) (hT:∀ e ∈ T,FQ e.1/\FQ e.2) (hw:FQ w):am (ai_l4 FU (T.map ms) (Rt w)) FU (0,(fR A).map mk2) = some ((fR (A ++ sc w T)).map mk2):=by
 have hF:=aA
 have hs:=jZ w T
 have hln:=hW.len
 rw [e,List.length_append,List.length_append] at hln
 have hh:=av (B:=ai_l4 FU (T.map ms) (Rt w)) (fun s=>T.length - s.1) (fun s=>∃ i,i <= T.length/\s = (i,(fR (A ++ (sc w T).take i)).map mk2)) (fun r=>r = (fR (A ++ sc w T)).map mk2) ?_ FU (0,(fR A).map mk2) ⟨0,Nat.zero_le _,by rw [List.take_zero,List.append_nil]⟩ (by simp only; omega)
 ·obtain ⟨r,e,rfl⟩:=hh
  exact e
 ·rintro s J ⟨i,hi,rfl⟩ hJ
  unfold ai_l4
  simp only
  by_cases c:i < T.length
  ·have f:=hT _ (List.getElem_mem c)
   have hin:(sc w T)[i]'(by omega) = (T[i].1,T[i].2 * w):=by unfold sc; rw [List.getElem_map]
   have hsp:W = (A ++ (sc w T).take i) ++ ((sc w T).drop i ++ B):=by
    rw [e,List.append_assoc,<- List.append_assoc (List.take i _),List.take_append_drop]
   have hd:=hW.gat hsp (ik _)
   have hf:=(ik (A ++ (sc w T).take i)).fq fun d hd=>hk d (by rw [hsp]; exact List.mem_append_left _ hd)
   obtain ⟨t1,t2⟩:=lY f.2.rf hw.rf (by omega)
   rw [if_pos (by simpa using c),geE (by simpa using c),aa,List.getElem_map,pG f.2,aa,t1,aa,show (ms T[i]).fm = Sg T[i].1 from rfl]
   rw [pcaseH f.1 t2 hf (fun e he=>(hd e he).2) hW.lim (fun D=>J (i + 1,D))]
   refine hJ _ ⟨i + 1,c,?_⟩ (by simp only; omega)
   rw [List.take_succ_eq_append_getElem (by omega),hin,<- List.append_assoc,nz]
  ·rw [if_neg (by simpa using c)]
   refine ⟨_,rfl,?_⟩
   rw [List.take_of_length_le (by omega)]
theorem mixO {L:List (List (Rat × Rat))} {ws:List Rat} (h:Mx L ws):am (ai_l5 FU (L.map fun T=>T.map ms) (ws.map Sg)) FU (0,[]) = some ((fR (bP L ws)).map mk2):=by
 have hF:=aA
 have h4:=h.l4
 have hl:=h.eq
 have hh:=av (B:=ai_l5 FU (L.map fun T=>T.map ms) (ws.map Sg)) (fun s=>L.length - s.1) (fun s=>∃ i,i <= L.length/\s = (i,(fR (bP (L.take i) (ws.take i))).map mk2)) (fun r=>r = (fR (bP L ws)).map mk2) ?_ FU (0,[]) ⟨0,Nat.zero_le _,rfl⟩ (by simp only; omega)
 ·obtain ⟨r,e,rfl⟩:=hh
  exact e
 ·rintro s J ⟨i,hi,rfl⟩ hJ
  unfold ai_l5
  simp only
  by_cases c:i < L.length
  ·have cw:i < ws.length:=by omega
   have fw:=h.fw _ (List.getElem_mem cw)
   have ht:=jp hl c cw
   rw [if_pos (by simpa using c),geE (by simpa using c),aa,geE (by simpa using cw),aa,List.getElem_map,List.getElem_map,cW FU _ fw (by omega),aa,show (Rt ws[i]).fj = Go.Proofs.YtkommhmbkbhmlaaGreat.L ws[i].num from rfl,bU,aa]
   by_cases cz:ws[i] = 0
   ·rw [if_pos ((nN _).2 cz)]
    refine hJ _ ⟨i + 1,c,?_⟩ (by simp only; omega)
    rw [ht]
    unfold wp
    rw [if_pos cz,List.append_nil]
   ·have hsp:=iD hl (i + 1)
    rw [ht] at hsp
    have hwp:wp ws[i] L[i] = sc ws[i] L[i]:=if_neg cz
    rw [hwp] at ht hsp
    rw [if_neg fun hc=>cz ((nN _).1 hc),mixI h.wh h.key (by rw [hsp,List.append_assoc]) (h.fq _ (List.getElem_mem c)) fw,aa]
    refine hJ _ ⟨i + 1,c,?_⟩ (by simp only; omega)
    rw [ht]
  ·rw [if_neg (by simpa using c)]
   refine ⟨_,rfl,?_⟩
   rw [List.take_of_length_le (by omega),List.take_of_length_le (by omega)]
theorem mixRI {L:List (List (Rat × Rat))} {W A B:List (Rat × Rat)} {w:Rat} {i:Nat} {b:Nat} (hi:i < L.length) (hW:Wh 8 16 b W) (e:W = A ++ (wp w L[i] ++ B)) (hT:∀ e ∈ L[i],FQ e.1/\FQ e.2) (hw:FQ w) (hl:L[i].length < 1000):am (ac_l1 FU (L.map fun T=>T.map ms) i (RR w)) FU ((cO A).map mr,0) = some ((cO (A ++ wp w L[i])).map mr):=by
 have hF:=aA
 have hln:=hW.len
 have hlm:=hW.lim
 rw [e,List.length_append,List.length_append] at hln
 have hh:=av (B:=ac_l1 FU (L.map fun T=>T.map ms) i (RR w)) (fun s=>L[i].length - s.2) (fun s=>∃ j,j <= L[i].length/\s = ((cO (A ++ (wp w L[i]).take j)).map mr,j)) (fun r=>r = (cO (A ++ wp w L[i])).map mr) ?_ FU ((cO A).map mr,0) ⟨0,Nat.zero_le _,by rw [List.take_zero,List.append_nil]⟩ (by simp only; omega)
 ·obtain ⟨r,e,rfl⟩:=hh
  exact e
 ·rintro s J ⟨j,hj,rfl⟩ hJ
  unfold ac_l1
  simp only
  rw [geE (by simpa using hi),aa,List.getElem_map]
  by_cases c:j < L[i].length
  ·rw [if_pos (by simpa using c),zeroW,aa]
   by_cases cz:w = 0
   ·rw [if_pos (decide_eq_true cz)]
    refine ⟨_,rfl,?_⟩
    unfold wp
    rw [if_pos cz,List.take_nil]
   ·have hwp:wp w L[i] = sc w L[i]:=if_neg cz
    have hs:(wp w L[i]).length = L[i].length:=by rw [hwp,jZ]
    have f:=hT _ (List.getElem_mem c)
    have hin:(wp w L[i])[j]'(by omega) = (L[i][j].1,L[i][j].2 * w):=by
     simp only [hwp]
     unfold sc
     rw [List.getElem_map]
    have hsp:W = (A ++ (wp w L[i]).take j) ++ ((wp w L[i]).drop j ++ B):=by
     rw [e,List.append_assoc,<- List.append_assoc (List.take j _),List.take_append_drop]
    obtain ⟨c1,c2⟩:=oR (A ++ (wp w L[i]).take j)
    have hd:=hW.gat hsp c1
    obtain ⟨t1,t2⟩:=lY f.2.rf hw.rf (by omega)
    have hcl:=c1.len
    rw [List.length_append] at hcl
    have htk:=List.length_take_le' j (wp w L[i])
    rw [if_neg (by rw [decide_eq_false cz]; decide),geE (by simpa using c),aa,List.getElem_map,show (ms L[i][j]).fm = Sg L[i][j].1 from rfl,show (ms L[i][j]).fP = Sg L[i][j].2 from rfl,inS f.1,aa,inS f.2,aa,nI hw.rf f.2.rf (by omega),aa]
    rw [Rat.mul_comm w,putH hd f.1.rf t2 (by omega) hlm (by omega),aa]
    refine hJ _ ⟨j + 1,c,?_⟩ (by simp only; omega)
    rw [List.take_succ_eq_append_getElem (by omega),hin,<- List.append_assoc,lV]
  ·rw [if_neg (by simpa using c)]
   refine ⟨_,rfl,?_⟩
   rw [List.take_of_length_le]
   unfold wp
   split
   ·exact Nat.zero_le _
   ·rw [jZ]; omega
theorem mixRO {L:List (List (Rat × Rat))} {ws:List Rat} (h:Mx L ws):am (ac_l2 FU (L.map fun T=>T.map ms) (ws.map Sg)) FU ([],0) = some ((cO (bP L ws)).map mr):=by
 have hF:=aA
 have h4:=h.l4
 have hl:=h.eq
 have hh:=av (B:=ac_l2 FU (L.map fun T=>T.map ms) (ws.map Sg)) (fun s=>L.length - s.2) (fun s=>∃ i,i <= L.length/\s = ((cO (bP (L.take i) (ws.take i))).map mr,i)) (fun r=>r = (cO (bP L ws)).map mr) ?_ FU ([],0) ⟨0,Nat.zero_le _,rfl⟩ (by simp only; omega)
 ·obtain ⟨r,e,rfl⟩:=hh
  exact e
 ·rintro s J ⟨i,hi,rfl⟩ hJ
  unfold ac_l2 jn
  simp only
  by_cases c:i < L.length
  ·have cw:i < ws.length:=by omega
   have fw:=h.fw _ (List.getElem_mem cw)
   have ht:=jp hl c cw
   have hsp:=iD hl (i + 1)
   rw [ht] at hsp
   rw [if_pos (by simpa using c),geE (by simpa using cw),aa,List.getElem_map,inS fw,aa]
   rw [mixRI c h.wh (by rw [hsp,List.append_assoc]) (h.fq _ (List.getElem_mem c)) fw (by have:=h.ln _ (List.getElem_mem c); omega),aa]
   refine hJ _ ⟨i + 1,c,?_⟩ (by simp only; omega)
   rw [ht]
  ·rw [if_neg (by simpa using c)]
   refine ⟨_,rfl,?_⟩
   rw [List.take_of_length_le (by omega),List.take_of_length_le (by omega)]
open Classical in
theorem mixAny (X:List (List Ta)) (w:List Tb) (hX:X.length <= 4) (hx:∀ x ∈ X,x.length <= 9) (hw:w.length <= 4):∃ r:List Ta × Int,ai_p FU X w = some r/\ac_p FU X w = some r/\r.1.length < 1000:=by
 have hF:=aA
 have ha:=ph X w (by omega) (fun x h=>by have:=hx x h; omega) (by omega)
 have ho:=oksRef X (by omega) (fun x h=>by have:=hx x h; omega)
 have hs:=nc w (by omega)
 unfold ai_p ac_p
 have n1:¬ 40 < X.length:=by omega
 have n2:¬ 40 < w.length:=by omega
 simp only [if_neg n1,if_neg n2]
 rw [ha,aa]
 by_cases c1:Oks X
 ·obtain ⟨_,e1⟩:=ho.resolve_right fun h=>h.1 c1
  rw [e1,if_pos c1,thnr,hs,aa]
  by_cases c2:Shs w
  ·rw [if_pos c2,if_pos rfl,decide_eq_true c2,if_pos rfl]
   by_cases c3:X.length = w.length
   ·rw [if_pos c3,if_pos c3]
    obtain ⟨L,rfl,hL⟩:=c1.lists
    obtain ⟨ws,rfl,fw⟩:=c2.lists
    rw [List.length_map] at hX hw c3
    rw [List.length_map] at c3
    have hg:=lz fw (by omega)
    have hsum:=sumAny fw (by omega)
    have hsf:=kD fw (by omega) ws.length (Nat.le_refl _)
    rw [List.take_length] at hsf
    rw [hg,aa]
    rcases negAny (L.map fun T=>T.map ms) fw (by omega) with ⟨k,e2⟩ | ⟨k,e2⟩
    ·rw [e2,thnr,if_neg (show ¬ (0:Int) <= -1 by decide),from0,aa]
     rw [show ((0:Nat),(Rt 0).fj.fc,(Rt 0).fj.fk,(Rt 0).fh.fc,(Rt 0).fh.fk) = (0,eL 0) from rfl,hsum,aa]
     unfold eL
     dsimp only
     rw [from1,aa,show (⟨⟨(Rt (sq ws)).fj.fc,(Rt (sq ws)).fj.fk⟩,⟨(Rt (sq ws)).fh.fc,(Rt (sq ws)).fh.fk⟩⟩:Tc) = Rt (sq ws) from rfl,rcmpH hsf FQ1.rf (by omega),aa]
     by_cases c4:sq ws = 1
     ·have hM:Mx L ws:=⟨fun T hT e he=>(hL T hT).1.fq e he,fw,fun T hT=>by
       have:=hx _ (List.mem_map.2 ⟨T,hT,rfl⟩)
       rwa [List.length_map] at this,c3,hw⟩
      obtain ⟨z1,z2⟩:=oR (bP L ws)
      have g:=ik (bP L ws)
      have hlen:=hM.wh.len
      have gl:=g.len
      have zl:=z1.len
      rw [if_pos (bc.2 c4),mixO hM,aa,if_neg (by rw [List.length_map]; omega),decide_eq_true (⟨k,c4⟩:(∀ q ∈ ws,0 <= q)/\sq ws = 1),if_pos rfl,mixRO hM,aa]
      rw [outRef (hM.wh.gat (List.append_nil _).symm z1) (by omega) (by omega) (by omega),aa]
      rw [gatherH (U:=cO (bP L ws)) (fun xs q=>rfl) (fun e J xs q=>rfl) false (g.fq hM.key) g.nd z2 (z1.perm2 g) (by omega)]
      have hp:=z1.perm2 g
      by_cases c5:∀ e ∈ fR (bP L ws),FQ e.2
      ·rw [if_pos ⟨rfl,c5⟩,if_pos fun e he=>⟨z1.fq hM.key e he,c5 e (hp.mem_iff.1 he)⟩]
       exact ⟨_,rfl,rfl,by rw [List.length_map]; omega⟩
      ·rw [if_neg fun hc=>c5 hc.2,if_neg fun hc=>c5 fun e he=>(hc e (hp.mem_iff.2 he)).2]
       exact ⟨_,rfl,rfl,by decide⟩
     ·rw [if_neg fun hc=>c4 (bc.1 hc),decide_eq_false fun hc=>c4 hc.2,if_neg (by decide)]
      exact ⟨_,rfl,rfl,by decide⟩
    ·rw [e2,decide_eq_false fun hc=>k hc.1,if_neg (by decide)]
     exact ⟨_,rfl,rfl,by decide⟩
   ·rw [if_neg c3,if_neg c3]
    exact ⟨_,rfl,rfl,by decide⟩
  ·rw [if_neg c2,if_neg (by decide),decide_eq_false c2,if_neg (by decide)]
   exact ⟨_,rfl,rfl,by decide⟩
 ·obtain ⟨_,e1⟩:=ho.resolve_left fun h=>c1 h.1
  rw [e1,if_neg c1,if_neg (by decide)]
  exact ⟨_,rfl,rfl,by decide⟩
end Go.Proofs.YtkommhmbkbhmlaaGreat
namespace Go.Proofs.YtkommhmbkbhmlaaGreat
open Go
set_option maxRecDepth 8000
theorem pp:cq_p FU = some true:=by kernel_rfl
theorem jn_ok {α β:Type} {K:β -> Option α} {F:(β -> Option α) -> Option α} {Q:Option α -> Prop} (P:β -> Prop) (hK:∀ b,P b -> Q (K b)) (hF:∀ J:β -> Option α,(∀ b,P b -> Q (J b)) -> Q (F J)):Q (jn K F):=hF K hK
theorem ow {a b:Int} (ha:Sm a) (hb:Sm b) (h0:b ≠ 0):∃ y,bO_p FU a b = some y:=by
 have hF:=aA
 obtain ⟨_,l1,l2⟩:=fW FU 16 a b h0 ha.r hb.r (by decide) hF
 unfold bO_p
 rw [if_neg h0,iy ha hb h0,aa,cy FU 16 _ l1 l2 (by decide) (by omega),aa]
 exact ⟨_,rfl⟩
theorem pb (xs:List Ta) (h:xs.length <= 1000):aK_p FU xs = some xs:=by
 unfold aK_p
 rw [bz _ _ (by simp only [leN]; omega),aa,List.nil_append]
 exact ii fun h=>by rw [h]
theorem cloneL (xs:List (List Ta)) (h:xs.length <= 1000):aY_p FU xs = some xs:=by
 unfold aY_p
 rw [bz _ _ (by simp only [leN]; omega),aa,List.nil_append]
 exact ii fun h=>by rw [h]
theorem fu (t:T8):∃ b,ap_p FU t = some b:=by
 have hF:=aA
 have hh:=av (B:=ap_l1 FU t) (fun i:Nat=>6 - i) (fun _=>True) (fun _=>True) ?_ FU 0 trivial (by omega)
 ·obtain ⟨r,e,_⟩:=hh
  unfold ap_p
  rw [e]
  cases r with
  | inl b=>exact ⟨_,rfl⟩
  | inr u=>exact ⟨_,rfl⟩
 ·intro i J _ hJ
  unfold ap_l1 bZ_p
  simp only
  by_cases c:i < ([t.2.2.1,t.2.2.2.1,t.2.2.2.2.1,t.2.2.2.2.2.1,t.2.2.2.2.2.2.1,t.2.2.2.2.2.2.2]:List UInt64).length
  ·have c6:i < 6:=c
   rw [if_pos c,geE c,aa,aa]
   split
   ·exact ⟨_,rfl,trivial⟩
   ·exact hJ (i + 1) trivial (by omega)
  ·rw [if_neg c]
   exact ⟨_,rfl,trivial⟩
theorem ownAny (a0:List Ta):∃ r,bD_p FU a0 = some r/\r.length <= 6:=by
 have hF:=aA
 unfold bD_p
 rw [fV (Nat.min_le_left _ _),aa]
 have hl:(a0.take (min a0.length 6)).length <= 6:=by rw [List.length_take]; omega
 rw [pb _ (by omega),aa]
 generalize a0.take (min a0.length 6) = ys at hl ⊢
 have hh:=av (B:=bD_l1 FU ys) (fun s=>ys.length - s.1) (fun s=>s.2.length = ys.length) (fun r=>r.length = ys.length) ?_ FU (0,ys) rfl (by simp only; omega)
 ·obtain ⟨r,e,h⟩:=hh
  rw [e]
  exact ⟨r,rfl,by omega⟩
 ·rintro ⟨i,xs⟩ J h hJ
  simp only at h hJ
  unfold bD_l1
  simp only
  by_cases c:i < ys.length
  ·have put1:∀ (zs:List Ta) (m:Ta),zs.length = ys.length -> ∃ us,put zs ((i:Nat):Int) m = some us/\us.length = ys.length:=fun zs m hz=>
    ⟨_,bT m (by omega),by rw [List.length_set]; exact hz⟩
   have last:∀ (zs:List Ta) (m:Ta),zs.length = ys.length -> ∃ r,((put zs ((i:Nat):Int) m).bind fun us=>J (i + 1,us)) = some r/\r.length = ys.length:=fun zs m hz=>by
    obtain ⟨us,e,hu⟩:=put1 zs m hz
    rw [e,aa]
    exact hJ (i + 1,us) hu (by simp only; omega)
   have tail:∀ zs:List Ta,zs.length = ys.length -> ∃ r,((zs[i]?).bind fun x=>(ap_p FU x.fP.fN).bind fun y=>if y = true then (ap_p FU x.fP.fD).bind fun y2=>(if y2 = true then J (i + 1,zs) else (put zs ((i:Nat):Int) (⟨x.fm,noS⟩:Ta)).bind fun us=>J (i + 1,us)) else (put zs ((i:Nat):Int) (⟨x.fm,noS⟩:Ta)).bind fun us=>J (i + 1,us)) = some r/\r.length = ys.length:=fun zs hz=>by
    rw [geE (show i < zs.length by omega),aa]
    obtain ⟨b,e⟩:=fu zs[i].fP.fN
    rw [e,aa]
    split
    ·obtain ⟨b2,e2⟩:=fu zs[i].fP.fD
     rw [e2,aa]
     split
     ·exact hJ (i + 1,zs) hz (by simp only; omega)
     ·exact last zs _ hz
    ·exact last zs _ hz
   rw [if_pos c,geE (show i < xs.length by omega),aa]
   obtain ⟨b,e⟩:=fu xs[i].fm.fN
   rw [e,aa]
   split
   ·obtain ⟨b2,e2⟩:=fu xs[i].fm.fD
    rw [e2,aa]
    unfold jn
    simp only
    split
    ·exact tail xs h
    ·obtain ⟨us,e3,hu⟩:=put1 xs ⟨⟨(0,0,0,0,0,0,0,0),(0,0,0,0,0,0,0,0)⟩,xs[i].fP⟩ h
     rw [e3,aa]
     exact tail us hu
   ·obtain ⟨us,e3,hu⟩:=put1 xs ⟨⟨(0,0,0,0,0,0,0,0),(0,0,0,0,0,0,0,0)⟩,xs[i].fP⟩ h
    rw [e3,aa]
    exact tail us hu
  ·rw [if_neg c]
   exact ⟨_,rfl,h⟩
theorem bendAny (b:TBend) (xs:List Ta) (h0:0 < xs.length) (h8:xs.length <= 8):∃ r,bR_p FU b xs = some r/\r.length <= 9:=by
 have ha:=UInt8.toNat_lt b.fm
 unfold bR_p
 rw [pb _ (by omega),aa]
 unfold cL
 rw [if_neg (by omega),aa]
 have s0:0 <= ((b.fm.toNat:Nat):Int).tmod ((xs.length:Nat):Int):=Int.tmod_nonneg _ (by omega)
 have s1:((b.fm.toNat:Nat):Int).tmod ((xs.length:Nat):Int) < ((xs.length:Nat):Int):=Int.tmod_lt_of_pos _ (by omega)
 generalize ((b.fm.toNat:Nat):Int).tmod ((xs.length:Nat):Int) = s at s0 s1 ⊢
 have hs:s.toNat < xs.length:=by omega
 split
 ·rw [bp s0 hs,aa,bT _ hs,aa]
  exact ⟨_,rfl,by rw [List.length_set]; omega⟩
 ·split
  ·rw [bp s0 hs,aa,bT _ hs,aa]
   exact ⟨_,rfl,by rw [List.length_set]; omega⟩
  ·split
   ·rw [bp s0 hs,aa,bz _ _ (by simp only [leC,leN]; omega),aa]
    exact ⟨_,rfl,by simp only [List.length_append,leC,leN]; omega⟩
   ·split
    ·rw [aX (by omega) (by omega),aa]
     unfold chk3
     rw [if_pos (by omega),aa,if_neg (by omega)]
     exact ⟨_,rfl,Nat.le_trans (List.length_take_le _ _) (by omega)⟩
    ·exact ⟨_,rfl,by omega⟩
theorem cu {X:List (List Ta)} {w:List Tb} (k:Option Bool) (hX:X.length <= 4) (hx:∀ x ∈ X,x.length <= 9) (hw:w.length <= 4) :
  ((ai_p FU X w).bind fun y=>(ac_p FU X w).bind fun y2=>(aj_p FU y.1 y2.1).bind fun q=>if q = true then (if y.2 = y2.2 then k else some false) else some false) = k:=by
 obtain ⟨r,e1,e2,h⟩:=mixAny X w hX hx hw
 rw [e1,aa,e2,aa,pr _ h,aa,if_pos rfl,if_pos rfl]
theorem sum4 {xs:List UInt8} (h:xs.length <= 4):∃ z:Int,am (am_l2 FU xs) FU (0,0) = some z/\0 <= z/\z <= 2000:=by
 have hF:=aA
 have hh:=av (B:=am_l2 FU xs) (fun s:Int × Nat=>xs.length - s.2) (fun s=>0 <= s.1/\s.1 <= 255 * (s.2:Int)/\s.2 <= xs.length) (fun z=>0 <= z/\z <= 2000) ?_ FU (0,0) ⟨by decide,by decide,Nat.zero_le _⟩ (by simp only; omega)
 ·exact hh
 ·rintro ⟨z,i⟩ J ⟨h1,h2,h3⟩ hJ
  simp only at h1 h2 h3 hJ
  unfold am_l2
  simp only
  by_cases c:i < xs.length
  ·have:=UInt8.toNat_lt xs[i]
   rw [if_pos c,geE c,aa,aX (by omega) (by omega),aa]
   exact hJ (_,i + 1) ⟨by simp only; omega,by simp only; omega,c⟩ (by simp only; omega)
  ·rw [if_neg c]
   exact ⟨_,rfl,h1,by omega⟩
theorem some4 {ds:List Th} {z:Int} (a4:List UInt8) (h:ds.length <= 4) (z0:0 <= z) (z1:z <= 2000):∃ (X:List (List Ta)) (w:List Tb),am (am_l1 FU ds z a4) FU (0,[],[]) = some (X,w)/\X.length <= 4/\w.length <= 4/\∀ x ∈ X,0 < x.length/\x.length <= 8:=by
 have hF:=aA
 have hh:=av (B:=am_l1 FU ds z a4) (fun s=>ds.length - s.1) (fun s=>s.1 <= ds.length/\s.2.1.length = s.1/\s.2.2.length = s.1/\∀ x ∈ s.2.2,0 < x.length/\x.length <= 8)
  (fun r=>r.1.length <= 4/\r.2.length <= 4/\∀ x ∈ r.1,0 < x.length/\x.length <= 8) ?_ FU (0,[],[]) ⟨Nat.zero_le _,rfl,rfl,fun x hx=>by cases hx⟩ (by simp only; omega)
 ·obtain ⟨⟨X,w⟩,e,h1,h2,h3⟩:=hh
  exact ⟨X,w,e,h1,h2,h3⟩
 ·rintro ⟨i,ws,X⟩ J ⟨h1,h2,h3,h4⟩ hJ
  simp only at h1 h2 h3 h4 hJ
  unfold am_l1
  simp only
  by_cases c:i < ds.length
  ·obtain ⟨N,T,e,n0,n8,d⟩:=spreadN ds[i]
   have hl:=(d.dw n0 n8).len
   have hln:=d.len
   rw [if_pos c,geE c,aa,e,aa,bz _ _ (by simp only [leC,leN]; omega),aa]
   refine jn_ok (Q:=fun o:Option (List (List Ta) × List Tb)=>∃ r,o = some r/\r.1.length <= 4/\r.2.length <= 4/\∀ x ∈ r.1,0 < x.length/\x.length <= 8) (fun k:Nat=>k <= 255) (fun k hk=>?_) fun J2 hJ2=>?_
   ·obtain ⟨y,e2⟩:=ow (a:=(k:Int)) (b:=max z 1) (by unfold Sm; omega) (by unfold Sm; omega) (by omega)
    rw [e2,aa,bz _ _ (by simp only [leC,leN]; omega),aa]
    refine hJ (i + 1,_,_) ⟨c,by simp only [List.length_append,leC,leN]; omega,by simp only [List.length_append,leC,leN]; omega,fun x hx=>?_⟩ (by simp only; omega)
    rcases List.mem_append.1 hx with hx | hx
    ·exact h4 x hx
    ·rw [List.mem_singleton.1 hx,List.length_map]
     exact ⟨hl.1,by omega⟩
   ·split
    ·rename_i c4
     rw [geE c4,aa]
     have:=UInt8.toNat_lt a4[i]
     exact hJ2 _ (by omega)
    ·exact hJ2 0 (by decide)
  ·rw [if_neg c]
   exact ⟨_,rfl,by simp only; omega,by simp only; omega,h4⟩
theorem iH (a0:List Ta) (a1:List Th) (a2:TBend) (a3:List Tb) (a4:List UInt8):am_p FU a0 a1 a2 a3 a4 = some true:=by
 unfold am_p
 rw [pp,aa,if_pos rfl,fV (Nat.min_le_left _ _),aa]
 obtain ⟨z,ez,z0,z1⟩:=sum4 (xs:=a4.take (min a4.length 4)) (by rw [List.length_take]; omega)
 rw [ez,aa,fV (Nat.min_le_left _ _),aa]
 obtain ⟨X,ws,e1,hX,hw,hx⟩:=some4 (ds:=a1.take (min a1.length 4)) a4 (by rw [List.length_take]; omega) z0 z1
 rw [e1,aa]
 simp only
 rw [cloneL X (by omega),aa]
 refine jn_ok (Q:=fun o=>o = some true) (fun Y:List (List Ta)=>Y.length <= 4/\∀ x ∈ Y,x.length <= 9) ?_ fun J hJ=>?_
 ·rintro Y ⟨hY,hy⟩
  obtain ⟨o,eo,ho⟩:=ownAny a0
  have hx' : ∀ x ∈ X,x.length <= 9:=fun x h=>by have:=hx x h; omega
  have h3:(a3.take (min a3.length 4)).length <= 4:=by rw [List.length_take]; omega
  have hu:([a2.fA]:List Tb).length <= 4:=by simp only [leC,leN]; decide
  have hO:([o]:List (List Ta)).length <= 4:=by simp only [leC,leN]; decide
  have hoo:∀ x ∈ ([o]:List (List Ta)),x.length <= 9:=fun x h=>by rw [List.mem_singleton.1 h]; omega
  rw [eo,aa,fV (Nat.min_le_left _ _),aa]
  refine (cu _ hX hx' h3).trans ?_
  refine (cu _ hX hx' hw).trans ?_
  refine (cu _ hX hx' hu).trans ?_
  rw [aa]
  refine (cu _ hY hy h3).trans ?_
  refine (cu _ hY hy hw).trans ?_
  refine (cu _ hY hy hu).trans ?_
  rw [aa]
  refine (cu _ hO hoo h3).trans ?_
  refine (cu _ hO hoo hw).trans ?_
  exact cu _ hO hoo hu
 ·split
  ·rename_i c
   obtain ⟨g0,g8⟩:=hx _ (List.getElem_mem c)
   obtain ⟨r,er,hr⟩:=bendAny a2 X[0] g0 g8
   rw [geE c,aa,er,aa,bT _ c,aa]
   refine hJ _ ⟨by rw [List.length_set]; exact hX,fun x h=>?_⟩
   rcases List.mem_or_eq_of_mem_set h with h | rfl
   ·have:=hx x h; omega
   ·exact hr
  ·exact hJ X ⟨hX,fun x h=>by have:=hx x h; omega⟩
theorem gV (a0:List Ta) (a1:List Th) (a2:TBend) (a3:List Tb) (a4:List UInt8):∃ n,am_p n a0 a1 a2 a3 a4 = some true:=⟨FU,iH a0 a1 a2 a3 a4⟩
end Go.Proofs.YtkommhmbkbhmlaaGreat
