/- Plain law: the program's distance is the distance. No program in sight but the printed functions. -/
import Derived.Test.YtkommhmbkbhmlaaGreatSJAk
namespace Go.Proofs.YtkommhmbkbhmlaaGreat
open Go
set_option maxRecDepth 8000
def nw (U:Lb (Rat × Rat)):Lb (Rat × Rat):=U.map fun e=>(e.1,-e.2)
theorem nw_wt (x:Rat):∀ U,wt x (nw U) = -wt x U
 | []=>by show (0:Rat) = -0; grind
 | e :: l=>by
  show (if e.1 = x then -e.2 else 0) + wt x (nw l) = -((if e.1 = x then e.2 else 0) + wt x l)
  rw [nw_wt x l]
  split <;> grind
theorem nw_keys (U:Lb (Rat × Rat)):(nw U).map (·.1) = U.map (·.1):=by
 unfold nw
 rw [List.map_map]; rfl
def sP:Lb (Rat × Rat) -> Rat
 | []=>0
 | e :: l=>cI e.2 + sP l
theorem sP_perm {l m:Lb (Rat × Rat)} (h:l.Perm m):sP l = sP m:=by
 induction h with
 | nil=>rfl
 | cons x _ ih=>show cI x.2 + _ = cI x.2 + _; rw [ih]
 | swap x y l=>show cI y.2 + (cI x.2 + sP l) = cI x.2 + (cI y.2 + sP l); grind
 | trans _ _ h1 h2=>rw [h1,h2]
theorem sP_dk {T U:Lb (Rat × Rat)}:∀ {l:Lb (Rat × Rat)},(∀ e ∈ l,e.2 = wt e.1 T - wt e.1 U) -> sP l = dsk T U (l.map (·.1))
 | [],_=>rfl
 | e :: l,h=>by
  show cI e.2 + sP l = cI (wt e.1 T - wt e.1 U) + dsk T U (l.map (·.1))
  rw [<- h e (List.mem_cons_self ..),sP_dk fun d hd=>h d (List.mem_cons_of_mem _ hd)]
theorem qd {α β:Type} {f:α -> β} {l m:Lb β} (h:l.Perm m):∀ D:Lb α,m = D.map f -> ∃ E:Lb α,E.Perm D/\l = E.map f:=by
 induction h with
 | nil=>exact fun D h=>⟨D,.refl _,h⟩
 | cons x _ ih=>
  intro D h
  cases D with
  | nil=>cases h
  | cons d D=>
   rw [List.map_cons] at h
   injection h with h1 h2
   obtain ⟨E,e1,e2⟩:=ih D h2
   exact ⟨d :: E,e1.cons d,by rw [List.map_cons,h1,e2]⟩
 | swap x y l=>
  intro D h
  cases D with
  | nil=>cases h
  | cons d D=>
   cases D with
   | nil=>cases h
   | cons c D=>
    rw [List.map_cons,List.map_cons] at h
    injection h with h1 h2
    injection h2 with h2 h3
    exact ⟨c :: d :: D,.swap d c D,by rw [List.map_cons,List.map_cons,h1,h2,h3]⟩
 | trans _ _ h1 h2=>
  intro D h
  obtain ⟨E,e1,e2⟩:=h2 D h
  obtain ⟨F,f1,f2⟩:=h1 E e2
  exact ⟨F,f1.trans e1,f2⟩
def aN (q:Rat):Bool × Lb Ua × Bool × Lb Ua:=((Rt q).fj.fc,(Rt q).fj.fk,(Rt q).fh.fc,(Rt q).fh.fk)
def ng (s:Bool × Lb Ua × Bool × Lb Ua) (e:Tb × Td):Bool × Lb Ua × Bool × Lb Ua:=
 match aW_p FU e.2.fj with
 | some z=>if 0 < z then (match aa_p FU ⟨⟨s.1,s.2.1⟩,⟨s.2.2.1,s.2.2.2⟩⟩ e.2 with
  | some y=>(y.fj.fc,y.fj.fk,y.fh.fc,y.fh.fk)
  | none=>s) else s
 | none=>s
theorem mZ {q:Rat} (h:0 < q.num):0 < q:=by
 refine (Rat.lt_iff _ _).2 ?_
 have e1:(0:Rat).num = 0:=rfl
 have e2:((0:Rat).den:Int) = 1:=rfl
 rw [e1,e2]
 omega
theorem sideG (q:Rat):∃ z,aW_p FU (Rt q).fj = some z/\(0 < z ↔ 0 < q):=by
 refine ⟨_,cK FU q.num,?_⟩
 rw [Int.sign_pos_iff]
 exact ⟨mZ,mG⟩
def bN (W:Lb (Rat × Rat)):Lb (Rat × Rat):=W.foldl (fun T e=>bs e.1 e.2 T) []
theorem mh (W:Lb (Rat × Rat)):Gat W (bN W)/\Up (bN W):=by
 suffices ∀ (l P D:Lb (Rat × Rat)),Gat P D -> Up D -> Gat (P ++ l) (l.foldl (fun T e=>bs e.1 e.2 T) D)/\Up (l.foldl (fun T e=>bs e.1 e.2 T) D) from this W [] [] Gat.nil List.Pairwise.nil
 intro l
 induction l with
 | nil=>intro P D h u; rw [List.append_nil]; exact ⟨h,u⟩
 | cons e l ih=>
  intro P D h u
  have:=ih (P ++ [e]) _ (h.put u e.1 e.2) (il e.1 e.2 u)
  rwa [List.append_assoc] at this
structure Wd (N:Nat) (W:List (Rat × Rat)):Prop where
 pos:0 < N
 le:N <= 1000000
 key:∀ e ∈ W,Bt 40 40 e.1
 wts:∀ e ∈ W,∃ k,0 < k/\k <= N/\e.2 = un k N
 sum:sW W = 1
 len:W.length <= 400
set_option maxRecDepth 8000
theorem gw {a b:Rat × Rat} (ha:FQ a.1/\FQ a.2) (hb:FQ b.1/\FQ b.2):ms a = ms b ↔ a = b:=by
 refine ⟨fun h=>?_,fun h=>by rw [h]⟩
 have h1:Sg a.1 = Sg b.1:=congrArg Ta.fm h
 have h2:Sg a.2 = Sg b.2:=congrArg Ta.fP h
 exact Prod.ext (kK ha.1 hb.1 h1) (kK ha.2 hb.2 h2)
set_option maxRecDepth 8000
theorem rtE (q:Rat):(⟨⟨(Rt q).fj.fc,(Rt q).fj.fk⟩,⟨(Rt q).fh.fc,(Rt q).fh.fk⟩⟩:Td) = Rt q:=rfl
theorem rrE (q:Rat):(⟨⟨(RR q).fN.fc,(RR q).fN.fD⟩,⟨(RR q).fD.fc,(RR q).fD.fD⟩⟩:Tf) = RR q:=rfl
theorem RF.mono {l m:Nat} {q:Rat} (h:RF l q) (hm:l <= m):RF m q:=⟨h.n.mono hm,h.d.mono hm⟩
theorem ns (a b:Rat):a + b = Rat.divInt (a.num * b.den + b.num * a.den) (a.den * b.den):=by
 conv=>lhs; rw [<- Rat.num_divInt_den a,<- Rat.num_divInt_den b]
 exact Rat.divInt_add_divInt _ _ FQ.ndnz FQ.ndnz
theorem mQ (a b:Rat):a * b = Rat.divInt (a.num * b.num) (a.den * b.den):=by
 conv=>lhs; rw [<- Rat.num_divInt_den a,<- Rat.num_divInt_den b]
 exact Rat.divInt_mul_divInt _ _
theorem dd0 (a b:Rat):(a.den:Int) * b.den ≠ 0:=Int.mul_ne_zero FQ.ndnz FQ.ndnz
theorem pb {l m:Nat} {a b:Rat} (ha:RF l a) (hb:RF m b):Fit (l + m + 1) (a.num * b.den + b.num * a.den)/\Fit (l + m + 1) ((a.den:Int) * b.den):=by
 have f1:=ha.n.mul hb.d
 have f2:=hb.n.mul ha.d
 rw [Nat.add_comm] at f2
 exact ⟨f1.add f2,(ha.d.mul hb.d).mono (by omega)⟩
theorem dm {l m:Nat} {a b:Rat} (ha:RF l a) (hb:RF m b) (h:l + m < 4000):aa_p FU (Rt a) (Rt b) = some (Rt (a + b))/\RF (l + m + 1) (a + b):=by
 have hF:=aw
 obtain ⟨f1,f2⟩:=pb ha hb
 obtain ⟨e1,e2,e3⟩:=nr FU (l + m + 1) _ _ f1 f2 (dd0 a b) (by omega) hF
 have g2:=hb.n.mul ha.d
 rw [Nat.add_comm] at g2
 rw [<- ns] at e1 e2 e3
 refine ⟨?_,?_⟩
 ·unfold aa_p Rt
  rw [cb FU l m _ _ ha.n hb.d (by omega) (by omega),aa,cb FU m l _ _ hb.n ha.d (by omega) (by omega),aa,ie FU (l + m) _ _ (ha.n.mul hb.d) g2 (by omega) (by omega),aa,cb FU l m _ _ ha.d hb.d (by omega) (by omega),aa,e1]
  rfl
 ·rw [ns]; rw [ns] at e2 e3; exact RF.of f1 f2 e2 e3
theorem dz {l m:Nat} {a b:Rat} (ha:RF l a) (hb:RF m b) (h:l + m < 4000):ax_p FU (Rt a) (Rt b) = some (Rt (a * b))/\RF (l + m) (a * b):=by
 have hF:=aw
 have f1:=ha.n.mul hb.n
 have f2:=ha.d.mul hb.d
 obtain ⟨e1,e2,e3⟩:=nr FU (l + m) _ _ f1 f2 (dd0 a b) (by omega) hF
 rw [<- mQ] at e1 e2 e3
 refine ⟨?_,?_⟩
 ·unfold ax_p Rt
  rw [cb FU l m _ _ ha.n hb.n (by omega) (by omega),aa,cb FU l m _ _ ha.d hb.d (by omega) (by omega),aa,e1]
  rfl
 ·rw [mQ]; rw [mQ] at e2 e3; exact RF.of f1 f2 e2 e3
theorem nH {l m:Nat} {a b:Rat} (ha:RF l a) (hb:RF m b) (h:l + m < 4000):aN_p FU (Rt a) (Rt b) = some (sgn a b):=by
 have hF:=aw
 have g2:=hb.n.mul ha.d
 rw [Nat.add_comm] at g2
 unfold aN_p Rt
 rw [cb FU l m _ _ ha.n hb.d (by omega) (by omega),aa,cb FU m l _ _ hb.n ha.d (by omega) (by omega),aa]
 unfold cn_p
 rw [fQ FU (l + m) _ _ (ha.n.mul hb.d) g2 (by omega) (by omega),aa,cK]
 rfl
theorem Fit.r {l:Nat} {z:Int} (h:Fit l z):FtR (2 * l) z:=by
 unfold FtR
 rw [kI]
 exact h
theorem bZ {l m:Nat} {a b:Rat} (ha:RF l a) (hb:RF m b) (h:l + m < 4000):aw_p FU (RR a) (RR b) = some (RR (a + b)):=by
 have hF:=aw
 obtain ⟨f1,f2⟩:=pb ha hb
 have x1:=ha.n.r.mul hb.d.r
 have x2:=hb.n.r.mul ha.d.r
 have x3:=ha.d.r.mul hb.d.r
 rw [Nat.add_comm] at x2
 have e:=(ix FU (2 * (l + m + 1)) _ _ (dd0 a b) f1.r f2.r (by omega) hF).1
 unfold aw_p RR
 simp only
 rw [aY FU _ _ _ _ ha.n.r hb.d.r (by omega) (by omega),aa,aY FU _ _ _ _ hb.n.r ha.d.r (by omega) (by omega),aa,iV FU _ _ _ x1 x2 (by omega) (by omega),aa,aY FU _ _ _ _ ha.d.r hb.d.r (by omega) (by omega),aa,e,aa,<- ns]
 rfl
theorem eK {l m:Nat} {a b:Rat} (ha:RF l a) (hb:RF m b) (h:l + m < 4000):br_p FU (RR a) (RR b) = some (RR (a * b)):=by
 have hF:=aw
 have e:=(ix FU (2 * (l + m)) _ _ (dd0 a b) (ha.n.mul hb.n).r (ha.d.mul hb.d).r (by omega) hF).1
 unfold br_p RR
 simp only
 rw [aY FU _ _ _ _ ha.n.r hb.n.r (by omega) (by omega),aa,aY FU _ _ _ _ ha.d.r hb.d.r (by omega) (by omega),aa,e,aa,<- mQ]
 rfl
theorem bI {l m:Nat} {a b:Rat} (ha:RF l a) (hb:RF m b) (h:l + m < 4000):ap_p FU (RR a) (RR b) = some (sgn a b):=by
 have hF:=aw
 have x2:=hb.n.r.mul ha.d.r
 rw [Nat.add_comm] at x2
 unfold ap_p
 rw [show (RR a).fN = R8 a.num from I,show (RR a).fD = R8 (a.den:Int) from I,show (RR b).fN = R8 b.num from I,show (RR b).fD = R8 (b.den:Int) from I,
  aY FU _ _ _ _ ha.n.r hb.d.r (by omega) (by omega),aa,aY FU _ _ _ _ hb.n.r ha.d.r (by omega) (by omega),aa,
  nD _ _ _ (ha.n.r.mul hb.d.r) x2 (by omega),aa]
 rfl
open Classical in
theorem lK (q:Rat):ac_p FU (Rt q) = some (if FQ q then (Sg q,0) else (noS,6)):=rtoldG FU q (by have:=aw; omega)
open Classical in
theorem fO {l:Nat} {q:Rat} (h:RF l q) (hl:l < 4000):ay_p FU (RR q) = some (if FQ q then (Sg q,0) else (noS,6)):=dJ FU (2 * l) q h.n.r h.d.r (by omega) (by have:=aw; omega)
set_option maxRecDepth 8000
theorem pg (t:T8):∃ z,Fw z/\t = Wg z:=by
 have h1:=pE t
 have h2:=eH
 by_cases h:val (wv t) < HB
 ·refine ⟨(val (wv t):Int),⟨by omega,by omega⟩,iL ?_⟩
  rw [Int.emod_eq_of_lt (by omega) (by omega)]
 ·refine ⟨(val (wv t):Int) - FB,⟨by omega,by omega⟩,iL ?_⟩
  rw [Int.sub_emod_right,Int.emod_eq_of_lt (by omega) (by omega)]
theorem gcd_fit {x y:Int} (hy:Fw y) (h0:0 < y):Fit 8 ((Nat.gcd x.natAbs y.natAbs:Nat):Int):=by
 refine Nat.lt_of_le_of_lt ?_ hy.fit
 rw [Int.natAbs_natCast]
 exact Nat.gcd_le_right _ (by omega)
theorem checkXY (x y:Int) (hx:Fw x) (hy:Fw y):bY_p FU ⟨Wg x,Wg y⟩ = some (if 0 < y/\Nat.gcd x.natAbs y.natAbs = 1 then 0 else 20):=by
 have hF:=aw
 have hr:ak_p FU ⟨Wg x,Wg y⟩ = some ⟨L x,L y⟩:=by
  unfold ak_p
  simp only
  rw [ij FU _ hx (by omega),aa,ij FU _ hy (by omega),aa]
 unfold bY_p
 rw [hS FU 1 (by unfold Sm; decide) (by omega),aa,hr,aa]
 simp only
 rw [cK,aa]
 by_cases h0:0 < y
 ·rw [Int.sign_eq_one_of_pos h0,if_neg (by decide),ku FU 8 _ _ hx.fit hy.fit (by decide) hF,aa]
  unfold cn_p
  rw [fQ FU 8 _ _ (gcd_fit hy h0) (by unfold Fit; decide) (by omega) (by decide),aa,cK,aa]
  by_cases hg:Nat.gcd x.natAbs y.natAbs = 1
  ·rw [aa,if_pos (show (((Nat.gcd x.natAbs y.natAbs:Nat):Int) - 1).sign = 0 from by rw [hg]; rfl),if_pos ⟨h0,hg⟩]
  ·have:(((Nat.gcd x.natAbs y.natAbs:Nat):Int) - 1).sign ≠ 0:=fun e=>by
    have:=Int.sign_eq_zero_iff_zero.1 e; omega
   rw [if_neg fun h=>hg h.2,aa,if_neg this]
 ·have hs:y.sign <= 0:=by
   rcases Int.lt_trichotomy y 0 with h | h | h
   ·rw [Int.sign_eq_neg_one_of_neg h]; decide
   ·rw [h]; decide
   ·omega
  rw [if_pos hs,if_neg fun h=>h0 h.1]
theorem bC (s:Tb):(∃ q,FQ q/\s = Sg q) ∨ (bY_p FU s = some 20/\aJ_p FU s = some false):=by
 obtain ⟨a,b⟩:=s
 obtain ⟨x,hx,rfl⟩:=pg a
 obtain ⟨y,hy,rfl⟩:=pg b
 have c1:=checkXY x y hx hy
 have c2:=jS FU x y hx hy aw
 by_cases h:0 < y/\Nat.gcd x.natAbs y.natAbs = 1
 ·refine .inl ?_
  obtain ⟨m,rfl⟩:∃ m:Nat,y = (m:Int):=⟨y.toNat,by omega⟩
  have hn:(Rat.mk' x m (by omega) h.2).num = x:=rfl
  exact ⟨Rat.mk' x m (by omega) h.2,⟨hx,hy⟩,I⟩
 ·rw [if_neg h] at c1
  rw [decide_eq_false h] at c2
  exact .inr ⟨c1,c2⟩
structure Gd (T:List (Rat × Rat)):Prop where
 fq:∀ e ∈ T,FQ e.1/\FQ e.2
 pos:∀ e ∈ T,0 < e.2
 up:Up T
def gx (xs:Lb Ta):Prop:=∃ T:Lb (Rat × Rat),xs = T.map ms/\Gd T
def Okm (xs:Lb Ta):Prop:=∃ T:Lb (Rat × Rat),xs = T.map ms/\Gd T/\sW T = 1/\0 < T.length
theorem Gd.snoc {T:Lb (Rat × Rat)} {e:Rat × Rat} (h:Gd T) (fe:FQ e.1/\FQ e.2) (pe:0 < e.2) (hl:∀ x ∈ T,x.1 < e.1):Gd (T ++ [e]):=by
 refine ⟨fun x hx=>?_,fun x hx=>?_,?_⟩
 ·rcases List.mem_append.1 hx with hx | hx
  ·exact h.fq x hx
  ·rw [List.mem_singleton.1 hx]; exact fe
 ·rcases List.mem_append.1 hx with hx | hx
  ·exact h.pos x hx
  ·rw [List.mem_singleton.1 hx]; exact pe
 ·unfold Up
  rw [List.pairwise_append]
  refine ⟨h.up,List.pairwise_singleton ..,fun a ha b hb=>?_⟩
  rw [List.mem_singleton.1 hb]
  exact Rat.not_le.2 (hl a ha)
theorem nG {T:Lb (Rat × Rat)} (h:Up T) {i:Nat} (hi:i + 1 = T.length) {x:Rat} (hx:(T[i]'(by omega)).1 < x):∀ y ∈ T,y.1 < x:=fun y hy=>by
 obtain ⟨j,hj,rfl⟩:=List.getElem_of_mem hy
 by_cases c:j = i
 ·subst c; exact hx
 ·have:=pW h (show i < T.length by omega) (show j < i by omega)
  grind
theorem fx {q:Rat} (h:FQ q):bY_p FU (Sg q) = some 0:=checkG FU q h aw
theorem check2 (xs:Lb Ta) (hn:xs.length <= 400):(gx xs/\ao (aU_l2 FU xs) FU 0 = some (.inr ())) ∨ (¬ gx xs/\ao (aU_l2 FU xs) FU 0 = some (.inl 50)):=by
 have hF:=aw
 have hh:=au (B:=aU_l2 FU xs) (fun i:Nat=>xs.length - i) (fun i=>i <= xs.length/\gx (xs.take i)) (fun r=>(gx xs/\r = .inr ()) ∨ (¬ gx xs/\r = .inl 50)) ?_ FU 0 ⟨Nat.zero_le _,[],rfl,⟨by simp,by simp,List.Pairwise.nil⟩⟩ (by omega)
 ·obtain ⟨r,e,h | h⟩:=hh
  ·exact .inl ⟨h.1,by rw [e,h.2]⟩
  ·exact .inr ⟨h.1,by rw [e,h.2]⟩
 ·rintro i J ⟨hi,hg⟩ hJ
  unfold aU_l2 jn
  simp only
  by_cases c:i < xs.length
  ·have hat:∀ T:Lb (Rat × Rat),xs = T.map ms -> ∃ h:i < T.length,xs[i] = ms T[i]:=fun T e=>by
    have hl:i < T.length:=by rw [e,List.length_map] at c; exact c
    exact ⟨hl,by simp only [e,List.getElem_map]⟩
   have bad:¬ gx xs -> ∃ r,some (Sum.inl 50) = some r/\((gx xs/\r = .inr ()) ∨ (¬ gx xs/\r = (.inl 50:Int ⊕ Unit))):=fun h=>⟨_,I,.inr ⟨h,I⟩⟩
   rw [if_pos c,geE c,aa]
   rcases bC xs[i].fm with ⟨q,fq,eq⟩ | ⟨e1,_⟩
   ·rw [eq,fx fq,aa,if_pos I]
    rcases bC xs[i].fP with ⟨p,fp,ep⟩ | ⟨e1,_⟩
    ·have em:xs[i] = ms (q,p):=by
      rw [show xs[i] = ⟨xs[i].fm,xs[i].fP⟩ from I,eq,ep]; rfl
     have hT:∀ T:Lb (Rat × Rat),xs = T.map ms -> Gd T -> ∃ h:i < T.length,T[i] = (q,p):=fun T e g=>by
      obtain ⟨h,e2⟩:=hat T e
      rw [em] at e2
      exact ⟨h,((gw ⟨fq,fp⟩ (g.fq _ (List.getElem_mem h))).1 e2).symm⟩
     rw [ep,fx fp,aa,if_pos I,em,pG (e:=(q,p)) fp,aa,show (Rt (q,p).2).fj = Go.Proofs.YtkommhmbkbhmlaaGreat.L p.num from I,cK,aa]
     by_cases cp:0 < p
     ·rw [if_neg (by rw [Int.sign_eq_one_of_pos (mG cp)]; decide)]
      have next:(∃ T:Lb (Rat × Rat),xs.take i = T.map ms/\Gd T/\∀ x ∈ T,x.1 < q) -> gx (xs.take (i + 1)):=fun ⟨T,e,g,hl⟩=>by
       refine ⟨T ++ [(q,p)],?_,g.snoc ⟨fq,fp⟩ cp hl⟩
       rw [List.take_succ_eq_append_getElem c,e,em,List.map_append]; rfl
      obtain ⟨T,e,g⟩:=hg
      have hlen:T.length = i:=by
       have:=congrArg List.length e
       rw [List.length_take,List.length_map] at this
       omega
      by_cases c0:0 < i
      ·have hi1:i - 1 < T.length:=by omega
       have e3:xs[i - 1]? = some (ms T[i - 1]):=by
        have h1:(xs.take i)[i - 1]? = xs[i - 1]?:=List.getElem?_take_of_lt (by omega)
        rw [<- h1,e,List.getElem?_map,geE hi1]; rfl
       have f1:=(g.fq _ (List.getElem_mem hi1)).1
       rw [if_pos c0,e3,aa,show (ms T[i - 1]).fm = Sg T[i - 1].1 from I,dQ FU _ f1 (by omega),aa,dQ FU _ fq (by omega),aa,rcmpG f1 fq,aa]
       by_cases cl:T[i - 1].1 < q
       ·have hs:=bH.2 cl
        rw [if_neg (by rw [decide_eq_true_iff]; omega)]
        exact hJ (i + 1) ⟨c,next ⟨T,e,g,nG g.up (show i - 1 + 1 = T.length by omega) cl⟩⟩ (by omega)
       ·rw [if_pos (by rw [decide_eq_true_iff]; exact Int.not_lt.1 fun hc=>cl (bH.1 hc))]
        refine bad fun ⟨U,eU,gU⟩=>cl ?_
        obtain ⟨h,e4⟩:=hT U eU gU
        have hu:=pW gU.up h (show i - 1 < i by omega)
        have e5:U[i - 1]'(by omega) = T[i - 1]:=by
         have h1:xs[i - 1]? = some (ms (U[i - 1]'(by omega))):=by
          rw [eU,List.getElem?_map,geE (by omega)]; rfl
         rw [e3] at h1
         injection h1 with h1
         exact ((gw (g.fq _ (List.getElem_mem hi1)) (gU.fq _ (List.getElem_mem _))).1 h1).symm
        rw [e5,e4] at hu
        exact hu
      ·rw [if_neg c0,if_neg (by decide)]
       refine hJ (i + 1) ⟨c,next ⟨T,e,g,fun x hx=>?_⟩⟩ (by omega)
       rw [List.eq_nil_of_length_eq_zero (show T.length = 0 by omega)] at hx
       cases hx
     ·have hs:p.num.sign <= 0:=by
       rcases Int.lt_trichotomy p.num 0 with h | h | h
       ·rw [Int.sign_eq_neg_one_of_neg h]; decide
       ·rw [h]; decide
       ·exact absurd (mZ h) cp
      rw [if_pos hs,if_pos trivial]
      refine bad fun ⟨U,eU,gU⟩=>cp ?_
      obtain ⟨h,e4⟩:=hT U eU gU
      have:=gU.pos _ (List.getElem_mem h)
      rwa [e4] at this
    ·rw [e1,aa,if_neg (by decide),if_pos trivial]
     refine bad fun ⟨U,eU,gU⟩=>?_
     obtain ⟨h,e4⟩:=hat U eU
     rw [e4,show (ms U[i]).fP = Sg U[i].2 from I,fx (gU.fq _ (List.getElem_mem h)).2] at e1
     cases e1
   ·rw [e1,aa,if_neg (by decide),if_pos trivial]
    refine bad fun ⟨U,eU,gU⟩=>?_
    obtain ⟨h,e4⟩:=hat U eU
    rw [e4,show (ms U[i]).fm = Sg U[i].1 from I,fx (gU.fq _ (List.getElem_mem h)).1] at e1
    cases e1
  ·rw [if_neg c]
   refine ⟨_,I,.inl ⟨?_,I⟩⟩
   rwa [List.take_of_length_le (by omega)] at hg
set_option maxRecDepth 8000
theorem fC {T:Lb (Rat × Rat)} (h:∀ e ∈ T,FQ e.1/\FQ e.2) (hn:T.length <= 60):∀ i,i <= T.length -> RF (9 * i + 8) (sW (T.take i))
 | 0,_=>FQ0.rf
 | i + 1,hi=>by
  have ih:=fC h hn i (by omega)
  have hp:=(dm ih (h _ (List.getElem_mem (show i < T.length by omega))).2.rf (by omega)).2
  rw [fM (by omega)]
  exact hp.mono (by omega)
theorem check1 {T:Lb (Rat × Rat)} (h:∀ e ∈ T,FQ e.1/\FQ e.2) (hn:T.length <= 60):ao (aU_l1 FU (T.map ms)) FU (0,aN 0) = some (aN (sW T)):=by
 have hF:=aw
 have hh:=au (B:=aU_l1 FU (T.map ms)) (fun s=>T.length - s.1) (fun s=>∃ i,i <= T.length/\s = (i,aN (sW (T.take i)))) (fun r=>r = aN (sW T)) ?_ FU (0,aN 0) ⟨0,Nat.zero_le _,rfl⟩ (by simp only; omega)
 ·obtain ⟨r,e,rfl⟩:=hh
  exact e
 ·rintro s J ⟨i,hi,rfl⟩ hJ
  unfold aU_l1 aN
  simp only
  by_cases c:i < T.length
  ·have f:=h _ (List.getElem_mem c)
   rw [if_pos (by simpa using c),geE (by simpa using c),aa,List.getElem_map,pG f.2,aa]
   rw [rtE (sW (T.take i)),(dm (fC h hn i hi) f.2.rf (by omega)).1,aa,<- fM c]
   exact hJ _ ⟨i + 1,c,rfl⟩ (by simp only; omega)
  ·rw [if_neg (by simpa using c)]
   refine ⟨_,I,?_⟩
   rw [List.take_of_length_le (by omega)]
open Classical in
theorem gd (xs:Lb Ta) (hn:xs.length <= 60):aU_p FU xs = some (if Okm xs then 0 else 50):=by
 have hF:=aw
 unfold aU_p
 by_cases h0:xs.length < 1
 ·rw [if_pos h0,if_neg]
  rintro ⟨T,rfl,_,_,hT⟩
  rw [List.length_map] at h0
  omega
 ·rw [if_neg h0,if_neg (by omega)]
  rcases check2 xs (by omega) with ⟨⟨T,rfl,g⟩,e⟩ | ⟨hb,e⟩
  ·rw [List.length_map] at hn h0
   have hs:=fC g.fq hn T.length (Nat.le_refl _)
   rw [List.take_length] at hs
   rw [e]
   show ((aL_p FU 0).bind fun y303=>Option.bind (ao (aU_l1 FU (T.map ms)) FU (0,y303.fj.fc,y303.fj.fk,y303.fh.fc,y303.fh.fk)) _) = _
   rw [jF,aa]
   show Option.bind (ao (aU_l1 FU (T.map ms)) FU (0,aN 0)) _ = _
   rw [check1 g.fq hn,aa]
   show ((aL_p FU 1).bind fun y506=>(aN_p FU (Rt (sW T)) y506).bind fun y516=>if y516 = 0 then some 0 else some 50) = _
   rw [from1,aa,nH hs FQ1.rf (by omega),aa]
   by_cases c:sW T = 1
   ·rw [if_pos (aZ.2 c),if_pos ⟨T,rfl,g,c,by omega⟩]
   ·rw [if_neg fun hc=>c (aZ.1 hc),if_neg]
    rintro ⟨U,eU,gU,hU,_⟩
    have:T = U:=by
     have hl:=congrArg List.length eU
     rw [List.length_map,List.length_map] at hl
     refine List.ext_getElem hl fun i h1 h2=>?_
     have h3:(T.map ms)[i]? = (U.map ms)[i]?:=by rw [eU]
     rw [List.getElem?_map,List.getElem?_map,geE h1,geE h2] at h3
     injection h3 with h3
     exact (gw (g.fq _ (List.getElem_mem h1)) (gU.fq _ (List.getElem_mem h2))).1 h3
    rw [this] at c
    exact c hU
  ·rw [e,if_neg fun ⟨T,e1,g,_⟩=>hb ⟨T,e1,g⟩]
   rfl
set_option maxRecDepth 8000
def bb (q:Rat):Bool × Lb Int × Bool × Lb Int:=((RR q).fN.fc,(RR q).fN.fD,(RR q).fD.fc,(RR q).fD.fD)
theorem ft:al_p FU = some (RR 0):=by
 unfold al_p
 rw [iu (by unfold Sm; decide) (by unfold Sm; decide) (by decide),aa]; rfl
theorem oneR:ce_p FU = some (RR 1):=by
 unfold ce_p
 rw [iu (by unfold Sm; decide) (by unfold Sm; decide) (by decide),aa]; rfl
theorem gC {q:Rat} (h:FQ q):aJ_p FU (Sg q) = some true:=gN FU q h aw
theorem inS {q:Rat} (h:FQ q):aG_p FU (Sg q) = some (RR q):=lR FU q h (by have:=aw; omega)
theorem right1 (xs:Lb Ta) (hn:xs.length <= 60):(∃ T:Lb (Rat × Rat),xs = T.map ms/\Gd T/\ao (aq_l1 FU xs) FU (0,bb 0) = some (.inr (bb (sW T)))) ∨ (¬ gx xs/\ao (aq_l1 FU xs) FU (0,bb 0) = some (.inl false)):=by
 have hF:=aw
 have hh:=au (B:=aq_l1 FU xs) (fun s=>xs.length - s.1) (fun s=>s.1 <= xs.length/\∃ T:Lb (Rat × Rat),xs.take s.1 = T.map ms/\Gd T/\s.2 = bb (sW T)) (fun r=>(∃ T:Lb (Rat × Rat),xs = T.map ms/\Gd T/\r = .inr (bb (sW T))) ∨ (¬ gx xs/\r = .inl false)) ?_ FU (0,bb 0) ⟨Nat.zero_le _,[],rfl,⟨by simp,by simp,List.Pairwise.nil⟩,rfl⟩ (by simp only; omega)
 ·obtain ⟨r,e,⟨T,h1,h2,h3⟩ | h⟩:=hh
  ·exact .inl ⟨T,h1,h2,by rw [e,h3]⟩
  ·exact .inr ⟨h.1,by rw [e,h.2]⟩
 ·rintro ⟨i,s⟩ J ⟨hi,T,e,g,hs⟩ hJ
  simp only at hi e hs hJ
  subst hs
  unfold aq_l1 bb
  simp only
  by_cases c:i < xs.length
  ·have hat:∀ U:Lb (Rat × Rat),xs = U.map ms -> ∃ h:i < U.length,xs[i] = ms U[i]:=fun U eU=>by
    have hl:i < U.length:=by rw [eU,List.length_map] at c; exact c
    exact ⟨hl,by simp only [eU,List.getElem_map]⟩
   have bad:¬ gx xs -> ∃ r,some (Sum.inl false) = some r/\((∃ T:Lb (Rat × Rat),xs = T.map ms/\Gd T/\r = .inr (bb (sW T))) ∨ (¬ gx xs/\r = (.inl false:Bool ⊕ (Bool × Lb Int × Bool × Lb Int)))):=fun h=>⟨_,I,.inr ⟨h,I⟩⟩
   have hlen:T.length = i:=by
    have:=congrArg List.length e
    rw [List.length_take,List.length_map] at this
    omega
   rw [if_pos c,geE c,aa]
   rcases bC xs[i].fm with ⟨q,fq,eq⟩ | ⟨e0,e1⟩
   ·rw [eq,gC fq,aa,if_pos I]
    rcases bC xs[i].fP with ⟨p,fp,ep⟩ | ⟨e0,e1⟩
    ·have em:xs[i] = ms (q,p):=by
      rw [show xs[i] = ⟨xs[i].fm,xs[i].fP⟩ from I,eq,ep]; rfl
     have hT:∀ U:Lb (Rat × Rat),xs = U.map ms -> Gd U -> ∃ h:i < U.length,U[i] = (q,p):=fun U eU g=>by
      obtain ⟨h,e2⟩:=hat U eU
      rw [em] at e2
      exact ⟨h,((gw ⟨fq,fp⟩ (g.fq _ (List.getElem_mem h))).1 e2).symm⟩
     rw [ep,gC fp,aa,if_pos I,inS fp,aa,ft,aa,bI fp.rf FQ0.rf (by omega),aa]
     by_cases cp:0 < p
     ·rw [if_neg (by have:=cL.2 cp; omega)]
      have next:(∀ x ∈ T,x.1 < q) -> ∃ U:Lb (Rat × Rat),xs.take (i + 1) = U.map ms/\Gd U/\bb (sW T + p) = bb (sW U):=fun hl=>by
       refine ⟨T ++ [(q,p)],?_,g.snoc ⟨fq,fp⟩ cp hl,?_⟩
       ·rw [List.take_succ_eq_append_getElem c,e,em,List.map_append]; rfl
       ·rw [mA,show sW [(q,p)] = p + 0 from I,Rat.add_zero]
      have hr:=fC g.fq (by omega) T.length (Nat.le_refl _)
      rw [List.take_length] at hr
      have hp:=bZ hr fp.rf (by omega)
      by_cases c0:0 < i
      ·have hi1:i - 1 < T.length:=by omega
       have e3:xs[i - 1]? = some (ms T[i - 1]):=by
        have h1:(xs.take i)[i - 1]? = xs[i - 1]?:=List.getElem?_take_of_lt (by omega)
        rw [<- h1,e,List.getElem?_map,geE hi1]; rfl
       have f1:=(g.fq _ (List.getElem_mem hi1)).1
       rw [if_pos c0,e3,aa,show (ms T[i - 1]).fm = Sg T[i - 1].1 from I,inS f1,aa,inS fq,aa,bI f1.rf fq.rf (by omega),aa]
       by_cases cl:T[i - 1].1 < q
       ·have hs:=bH.2 cl
        rw [if_neg (by omega)]
        rw [show (⟨⟨(RR (sW T)).fN.fc,(RR (sW T)).fN.fD⟩,⟨(RR (sW T)).fD.fc,(RR (sW T)).fD.fD⟩⟩:Tf) = RR (sW T) from I,hp,aa]
        exact hJ (i + 1,bb (sW T + p)) ⟨c,next (nG g.up (show i - 1 + 1 = T.length by omega) cl)⟩ (by simp only; omega)
       ·rw [if_pos (Int.not_lt.1 fun hc=>cl (bH.1 hc))]
        refine bad fun ⟨U,eU,gU⟩=>cl ?_
        obtain ⟨h,e4⟩:=hT U eU gU
        have hu:=pW gU.up h (show i - 1 < i by omega)
        have e5:U[i - 1]'(by omega) = T[i - 1]:=by
         have h1:xs[i - 1]? = some (ms (U[i - 1]'(by omega))):=by
          rw [eU,List.getElem?_map,geE (by omega)]; rfl
         rw [e3] at h1
         injection h1 with h1
         exact ((gw (g.fq _ (List.getElem_mem hi1)) (gU.fq _ (List.getElem_mem _))).1 h1).symm
        rw [e5,e4] at hu
        exact hu
      ·rw [if_neg c0]
       rw [show (⟨⟨(RR (sW T)).fN.fc,(RR (sW T)).fN.fD⟩,⟨(RR (sW T)).fD.fc,(RR (sW T)).fD.fD⟩⟩:Tf) = RR (sW T) from I,hp,aa]
       refine hJ (i + 1,bb (sW T + p)) ⟨c,next fun x hx=>?_⟩ (by simp only; omega)
       rw [List.eq_nil_of_length_eq_zero (show T.length = 0 by omega)] at hx
       cases hx
     ·rw [if_pos (Int.not_lt.1 fun hc=>cp (cL.1 hc))]
      refine bad fun ⟨U,eU,gU⟩=>cp ?_
      obtain ⟨h,e4⟩:=hT U eU gU
      have:=gU.pos _ (List.getElem_mem h)
      rwa [e4] at this
    ·rw [e1,aa,if_neg (by decide)]
     refine bad fun ⟨U,eU,gU⟩=>?_
     obtain ⟨h,e4⟩:=hat U eU
     rw [e4,show (ms U[i]).fP = Sg U[i].2 from I,gC (gU.fq _ (List.getElem_mem h)).2] at e1
     cases e1
   ·rw [e1,aa,if_neg (by decide)]
    refine bad fun ⟨U,eU,gU⟩=>?_
    obtain ⟨h,e4⟩:=hat U eU
    rw [e4,show (ms U[i]).fm = Sg U[i].1 from I,gC (gU.fq _ (List.getElem_mem h)).1] at e1
    cases e1
  ·rw [if_neg c]
   refine ⟨_,I,.inl ⟨T,?_,g,I⟩⟩
   rwa [List.take_of_length_le (by omega)] at e
theorem map_ms {T U:Lb (Rat × Rat)} (hT:∀ e ∈ T,FQ e.1/\FQ e.2) (hU:∀ e ∈ U,FQ e.1/\FQ e.2) (e:T.map ms = U.map ms):T = U:=by
 have hl:=congrArg List.length e
 rw [List.length_map,List.length_map] at hl
 refine List.ext_getElem hl fun i h1 h2=>?_
 have h3:(T.map ms)[i]? = (U.map ms)[i]?:=by rw [e]
 rw [List.getElem?_map,List.getElem?_map,geE h1,geE h2] at h3
 injection h3 with h3
 exact (gw (hT _ (List.getElem_mem h1)) (hU _ (List.getElem_mem h2))).1 h3
theorem thnr {α β:Type} {K:β -> Oa α} {x:β}:thn (some (Sum.inr x)) K = K x:=rfl
open Classical in
theorem cr (xs:Lb Ta) (hn:xs.length <= 60):aq_p FU xs = some (decide (Okm xs)):=by
 have hF:=aw
 unfold aq_p
 by_cases h0:xs.length < 1
 ·rw [if_pos h0,decide_eq_false]
  rintro ⟨T,rfl,_,_,hT⟩
  rw [List.length_map] at h0
  omega
 ·rw [if_neg h0,if_neg (by omega),ft,aa]
  show thn (ao (aq_l1 FU xs) FU (0,bb 0)) _ = _
  rcases right1 xs hn with ⟨T,e1,g,e⟩ | ⟨hb,e⟩
  ·subst e1
   rw [List.length_map] at hn h0
   have hs:=fC g.fq hn T.length (Nat.le_refl _)
   rw [List.take_length] at hs
   rw [e,thnr]
   unfold bb
   dsimp only
   rw [rrE (sW T)]
   rw [oneR,aa,bI hs FQ1.rf (by omega),aa]
   congr 1
   refine decide_eq_decide.2 ⟨fun h=>⟨T,rfl,g,aZ.1 h,by omega⟩,fun ⟨U,eU,gU,hU,_⟩=>?_⟩
   rw [map_ms g.fq gU.fq eU]
   exact aZ.2 hU
  ·rw [e,decide_eq_false fun ⟨T,e1,g,_⟩=>hb ⟨T,e1,g⟩]
   rfl
set_option maxRecDepth 8000
theorem lJ {σ R:Type} (l:Lb σ) (P:σ -> Prop) (v:R) (B:(Nat -> Oa (R ⊕ Unit)) -> Nat -> Oa (R ⊕ Unit)) (hl:l.length < 1000)
  (h0:∀ J i,¬ i < l.length -> B J i = some (.inr ())) (h1:∀ J i (c:i < l.length),P l[i] -> B J i = J (i + 1)) (h2:∀ J i (c:i < l.length),¬ P l[i] -> B J i = some (.inl v)) :
  ((∀ s ∈ l,P s)/\ao B FU 0 = some (.inr ())) ∨ (¬ (∀ s ∈ l,P s)/\ao B FU 0 = some (.inl v)):=by
 have hF:=aw
 have hh:=au (B:=B) (fun i:Nat=>l.length - i) (fun i=>i <= l.length/\∀ s ∈ l.take i,P s) (fun r=>((∀ s ∈ l,P s)/\r = .inr ()) ∨ (¬ (∀ s ∈ l,P s)/\r = .inl v)) ?_ FU 0 ⟨Nat.zero_le _,fun s hs=>by cases hs⟩ (by omega)
 ·obtain ⟨r,e,h | h⟩:=hh
  ·exact .inl ⟨h.1,by rw [e,h.2]⟩
  ·exact .inr ⟨h.1,by rw [e,h.2]⟩
 ·rintro i J ⟨hi,hp⟩ hJ
  by_cases c:i < l.length
  ·by_cases hq:P l[i]
   ·rw [h1 J i c hq]
    refine hJ (i + 1) ⟨c,fun s hs=>?_⟩ (by omega)
    rw [List.take_succ_eq_append_getElem c] at hs
    rcases List.mem_append.1 hs with hs | hs
    ·exact hp s hs
    ·rw [List.mem_singleton.1 hs]; exact hq
   ·rw [h2 J i c hq]
    exact ⟨_,I,.inr ⟨fun hc=>hq (hc _ (List.getElem_mem c)),I⟩⟩
  ·rw [h0 J i c]
   refine ⟨_,I,.inl ⟨?_,I⟩⟩
   rwa [List.take_of_length_le (by omega)] at hp
def Oks (X:Lb (Lb Ta)):Prop:=∀ x ∈ X,Okm x
def Shs (w:Lb Tb):Prop:=∀ s ∈ w,∃ q,FQ q/\s = Sg q
theorem nU {s:Tb} (h:¬ ∃ q,FQ q/\s = Sg q):bY_p FU s = some 20/\aJ_p FU s = some false:=(bC s).resolve_left h
theorem nQ (w:Lb Tb) (hw:w.length <= 40):(Shs w/\ao (ar_l2 FU w) FU 0 = some (.inr ())) ∨ (¬ Shs w/\ao (ar_l2 FU w) FU 0 = some (.inl 20)):=by
 refine lJ w (fun s=>∃ q,FQ q/\s = Sg q) 20 _ (by omega) (fun J i c=>?_) (fun J i c=>?_) fun J i c h=>?_
 ·unfold ar_l2
  exact if_neg c
 ·rintro ⟨q,fq,e⟩
  unfold ar_l2 cA_p
  simp only
  rw [if_pos c,geE c,aa,e,fx fq]
  rfl
 ·unfold ar_l2 cA_p
  simp only
  rw [if_pos c,geE c,aa,(nU h).1,aa,aa,if_pos (by decide),if_pos (by omega)]
  rfl
open Classical in
theorem lr (X:Lb (Lb Ta)) (w:Lb Tb) (hX:X.length <= 40) (hx:∀ x ∈ X,x.length <= 60) (hw:w.length <= 40):ar_p FU X w = some (if Oks X then if Shs w then 0 else 20 else 50):=by
 unfold ar_p
 rcases lJ X (fun x=>Okm x) 50 (ar_l3 FU X w) (by omega) (fun J i c=>by unfold ar_l3; exact if_neg c)
  (fun J i c h=>by
   unfold ar_l3 cO_p
   simp only
   rw [if_pos c,geE c,aa,gd _ (hx _ (List.getElem_mem c)),if_pos h]
   rfl)
  (fun J i c h=>by
   unfold ar_l3 cO_p
   simp only
   rw [if_pos c,geE c,aa,gd _ (hx _ (List.getElem_mem c)),if_neg h,aa,aa,if_pos (by decide),if_pos (by omega)]
   rfl) with ⟨h,e⟩ | ⟨h,e⟩
 ·rw [e,if_pos (show Oks X from h)]
  show (if (0:Int) <= -1 then some (50:Int) else _) = _
  rw [if_neg (by decide)]
  rcases nQ w hw with ⟨k,e2⟩ | ⟨k,e2⟩
  ·rw [e2,if_pos k]; rfl
  ·rw [e2,if_neg k]; rfl
 ·rw [e,if_neg (show ¬ Oks X from h)]; rfl
set_option maxRecDepth 8000
theorem wt_rf {m:Nat} (x:Rat):∀ {W:Lb (Rat × Rat)},(∀ e ∈ W,RF m e.2) -> (m + 1) * W.length + m + 8 < 4000 -> RF ((m + 1) * W.length + 8) (wt x W)
 | [],_,_=>FQ0.rf
 | e :: l,h,hl=>by
  have e1:(m + 1) * (l.length + 1) = (m + 1) * l.length + (m + 1):=Nat.mul_succ ..
  rw [leC,e1] at hl ⊢
  have ih:=wt_rf x (W:=l) (fun d hd=>h d (List.mem_cons_of_mem _ hd)) (by omega)
  show RF _ ((if e.1 = x then e.2 else 0) + wt x l)
  split
  ·exact (dm (h e (List.mem_cons_self ..)) ih (by omega)).2.mono (by omega)
  ·rw [Rat.zero_add]
   exact ih.mono (by omega)
structure Wh (k m b:Nat) (W:List (Rat × Rat)):Prop where
 key:∀ e ∈ W,RF k e.1
 wts:∀ e ∈ W,RF m e.2
 bnd:(m + 1) * W.length + 8 <= b
 lim:m + b < 4000
 len:W.length <= 100
theorem Wh.gat {k m b:Nat} {W A B D:Lb (Rat × Rat)} (h:Wh k m b W) (e:W = A ++ B) (g:Gat A D):∀ d ∈ D,RF k d.1/\RF b d.2:=fun d hd=>by
 obtain ⟨h1,h2⟩:=(g.mem d).1 hd
 have hl:(m + 1) * A.length <= (m + 1) * W.length:=Nat.mul_le_mul_left _ (by rw [e,List.length_append]; omega)
 have h3:=h.bnd
 have h4:=h.lim
 refine ⟨?_,?_⟩
 ·obtain ⟨a,ha,e1⟩:=List.mem_map.1 h1
  rw [<- e1]
  exact h.key a (by rw [e]; exact List.mem_append_left _ ha)
 ·rw [h2]
  exact (wt_rf d.1 (fun a ha=>h.wts a (by rw [e]; exact List.mem_append_left _ ha)) (by omega)).mono (by omega)
theorem Gat.fq {A D:Lb (Rat × Rat)} (g:Gat A D) (h:∀ e ∈ A,FQ e.1):∀ d ∈ D,FQ d.1:=fun d hd=>by
 obtain ⟨h1,_⟩:=(g.mem d).1 hd
 obtain ⟨a,ha,e1⟩:=List.mem_map.1 h1
 rw [<- e1]
 exact h a ha
theorem pq {β:Type} {D:Lb (Rat × Rat)} {x p:Rat} {m b:Nat} (hx:FQ x) (hp:RF m p) (h1:∀ e ∈ D,FQ e.1) (hD:∀ e ∈ D,RF b e.2) (hl:m + b < 4000) (J:Lb (Tb × Td) -> Oa β) :
  ew (bD (D.map mk2) (Sg x)) (J (aC (D.map mk2) (Sg x) (Rt p))) (fun y=>(aa_p FU (Rt p) y).bind fun z=>J (aC (D.map mk2) (Sg x) z)) = J ((kz D (x,p)).map mk2):=by
 rw [nk hx h1]
 unfold kz
 simp only
 cases hm:bD D x with
 | none=>
  show J _ = _
  rw [kN hx _ h1]
 | some o=>
  show ((aa_p FU (Rt p) (Rt o)).bind fun z=>J (aC (D.map mk2) (Sg x) z)) = _
  rw [(dm hp (hD _ (jc hm)) hl).1,aa,kN hx _ h1]
theorem iO (A:Lb (Rat × Rat)) (e:Rat × Rat):bN (A ++ [e]) = bs e.1 e.2 (bN A):=by
 unfold bN
 rw [List.foldl_append]; rfl
theorem putH {k b m:Nat} {T:Lb (Rat × Rat)} {x p:Rat} (hT:∀ e ∈ T,RF k e.1/\RF b e.2) (hx:RF k x) (hp:RF m p) (hk:k + k < 4000) (hb:m + b < 4000) (hl:T.length < 1000):aO_p FU (T.map mr) (RR x) (RR p) = some ((bs x p T).map mr):=by
 have hF:=aw
 have hh:=au (B:=aO_l1 FU (T.map mr) (RR x) (RR p)) (fun s:Bool × Nat × Lb Tc=>T.length - s.2.1)
  (fun s=>s.2.1 <= T.length/\s.2.2.length <= s.2.1 + (if s.1 = true then 1 else 0)/\s.2.2 ++ (if s.1 = true then (T.drop s.2.1).map mr else (bs x p (T.drop s.2.1)).map mr) = (bs x p T).map mr)
  (fun r=>r.2.length <= T.length + 1/\(if r.1 = true then r.2 else r.2 ++ [mr (x,p)]) = (bs x p T).map mr) ?_ FU (false,0,[]) ⟨Nat.zero_le _,by simp,by simp⟩ (by simp only; omega)
 ·obtain ⟨⟨q,xs⟩,e,h1,h2⟩:=hh
  unfold aO_p
  rw [e,aa]
  simp only at h1 h2 ⊢
  by_cases hq:q = true
  ·rw [if_pos hq]; rw [if_pos hq] at h2; rw [h2]
  ·rw [if_neg hq]; rw [if_neg hq] at h2
   rw [bQ _ _ (by simp only [leC,leN]; omega),aa]
   exact congrArg some h2
 ·rintro ⟨q,i,xs⟩ J ⟨h1,h2,h3⟩ hJ
  simp only at h1 h2 h3 hJ
  have h2' : xs.length <= i + 1:=by split at h2 <;> omega
  unfold aO_l1
  simp only
  by_cases h0:i < T.length
  ·obtain ⟨f1,f2⟩:=hT T[i] (List.getElem_mem _)
   rw [if_pos (by simpa using h0),geE (by simpa using h0),aa,List.getElem_map]
   rw [List.drop_eq_getElem_cons h0] at h3
   rw [show (mr T[i]).fm = RR T[i].1 from I,bI f1 hx hk,aa]
   by_cases hq:q = true
   ·rw [if_pos hq] at h2 h3 ⊢
    rw [bQ _ _ (by simp only [leC,leN]; omega),aa]
    refine hJ (q,i + 1,_) ⟨h0,by simp only [List.length_append,leC,leN,if_pos hq]; omega,?_⟩ (by simp only; omega)
    simp only
    rw [if_pos hq,<- h3,List.append_assoc]; rfl
   ·rw [if_neg hq] at h2 h3 ⊢
    rw [bs] at h3
    by_cases c1:T[i].1 = x
    ·rw [if_pos (aZ.2 c1)]
     rw [if_pos c1] at h3
     rw [show (mr T[i]).fP = RR T[i].2 from rfl,bZ f2 hp (by omega),aa,bQ _ _ (by simp only [leC,leN]; omega),aa]
     refine hJ (true,i + 1,_) ⟨h0,by simp only [List.length_append,leC,leN,if_true]; omega,?_⟩ (by simp only; omega)
     simp only
     rw [if_pos trivial,<- h3]; simp [mr]
    ·rw [if_neg (fun hc=>c1 (aZ.1 hc))]
     rw [if_neg c1] at h3
     unfold jn
     simp only
     by_cases c2:x < T[i].1
     ·rw [if_pos (cL.2 c2)]
      rw [if_pos c2] at h3
      rw [bQ _ _ (by simp only [leC,leN]; omega),aa]
      rw [bQ _ _ (by simp only [List.length_append,leC,leN]; omega),aa]
      refine hJ (true,i + 1,_) ⟨h0,by simp only [List.length_append,leC,leN,if_true]; omega,?_⟩ (by simp only; omega)
      simp only
      rw [if_pos trivial,<- h3,List.append_assoc,List.append_assoc]; rfl
     ·rw [if_neg (fun hc=>c2 (cL.1 hc))]
      rw [if_neg c2] at h3
      rw [bQ _ _ (by simp only [leC,leN]; omega),aa]
      refine hJ (q,i + 1,_) ⟨h0,by simp only [List.length_append,leC,leN,if_neg hq]; omega,?_⟩ (by simp only; omega)
      simp only
      rw [if_neg hq,<- h3]; simp
  ·have hi:i = T.length:=by omega
   rw [if_neg (by simpa using h0)]
   refine ⟨_,I,?_⟩
   simp only
   rw [hi,List.drop_length] at h3
   refine ⟨by omega,?_⟩
   by_cases hq:q = true
   ·rw [if_pos hq] at h3 ⊢; simpa using h3
   ·rw [if_neg hq] at h3 ⊢; simpa [bs] using h3
set_option maxRecDepth 8000
structure Mx (L:List (List (Rat × Rat))) (ws:List Rat):Prop where
 fq:∀ T ∈ L,∀ e ∈ T,FQ e.1/\FQ e.2
 fw:∀ q ∈ ws,FQ q
 ln:∀ T ∈ L,T.length <= 9
 eq:L.length = ws.length
 l4:ws.length <= 4
set_option maxRecDepth 8000
theorem pZ:cD_p FU = some true:=by kernel_rfl
theorem oK (xs:Lb Ta) (h:xs.length <= 1000):aR_p FU xs = some xs:=by
 unfold aR_p
 rw [bQ _ _ (by simp only [leN]; omega),aa,List.nil_append]
 exact mH fun h=>by rw [h]
theorem gq (t:T8):∃ b,au_p FU t = some b:=by
 have hF:=aw
 have hh:=au (B:=au_l1 FU t) (fun i:Nat=>6 - i) (fun _=>True) (fun _=>True) ?_ FU 0 trivial (by omega)
 ·obtain ⟨r,e,_⟩:=hh
  unfold au_p
  rw [e]
  cases r with
  | inl b=>exact ⟨_,rfl⟩
  | inr u=>exact ⟨_,rfl⟩
 ·intro i J _ hJ
  unfold au_l1 cm_p
  simp only
  by_cases c:i < ([t.2.2.1,t.2.2.2.1,t.2.2.2.2.1,t.2.2.2.2.2.1,t.2.2.2.2.2.2.1,t.2.2.2.2.2.2.2]:Lb Ua).length
  ·have c6:i < 6:=c
   rw [if_pos c,geE c,aa,aa]
   split
   ·exact ⟨_,I,trivial⟩
   ·exact hJ (i + 1) trivial (by omega)
  ·rw [if_neg c]
   exact ⟨_,I,trivial⟩
theorem ownAny (a0:Lb Ta):∃ r,bM_p FU a0 = some r/\r.length <= 6:=by
 have hF:=aw
 unfold bM_p
 rw [mz (Nat.min_le_left _ _),aa]
 have hl:(a0.take (min a0.length 6)).length <= 6:=by rw [List.length_take]; omega
 rw [oK _ (by omega),aa]
 generalize a0.take (min a0.length 6) = ys at hl ⊢
 have hh:=au (B:=bM_l1 FU ys) (fun s=>ys.length - s.1) (fun s=>s.2.length = ys.length) (fun r=>r.length = ys.length) ?_ FU (0,ys) rfl (by simp only; omega)
 ·obtain ⟨r,e,h⟩:=hh
  rw [e]
  exact ⟨r,I,by omega⟩
 ·rintro ⟨i,xs⟩ J h hJ
  simp only at h hJ
  unfold bM_l1
  simp only
  by_cases c:i < ys.length
  ·have put1:∀ (zs:Lb Ta) (m:Ta),zs.length = ys.length -> ∃ us,put zs ((i:Nat):Int) m = some us/\us.length = ys.length:=fun zs m hz=>
    ⟨_,cC m (by omega),by rw [List.length_set]; exact hz⟩
   have last:∀ (zs:Lb Ta) (m:Ta),zs.length = ys.length -> ∃ r,((put zs ((i:Nat):Int) m).bind fun us=>J (i + 1,us)) = some r/\r.length = ys.length:=fun zs m hz=>by
    obtain ⟨us,e,hu⟩:=put1 zs m hz
    rw [e,aa]
    exact hJ (i + 1,us) hu (by simp only; omega)
   have tail:∀ zs:Lb Ta,zs.length = ys.length -> ∃ r,((zs[i]?).bind fun x=>(au_p FU x.fP.fN).bind fun y=>if y = true then (au_p FU x.fP.fD).bind fun y2=>(if y2 = true then J (i + 1,zs) else (put zs ((i:Nat):Int) (⟨x.fm,noS⟩:Ta)).bind fun us=>J (i + 1,us)) else (put zs ((i:Nat):Int) (⟨x.fm,noS⟩:Ta)).bind fun us=>J (i + 1,us)) = some r/\r.length = ys.length:=fun zs hz=>by
    rw [geE (show i < zs.length by omega),aa]
    obtain ⟨b,e⟩:=gq zs[i].fP.fN
    rw [e,aa]
    split
    ·obtain ⟨b2,e2⟩:=gq zs[i].fP.fD
     rw [e2,aa]
     split
     ·exact hJ (i + 1,zs) hz (by simp only; omega)
     ·exact last zs _ hz
    ·exact last zs _ hz
   rw [if_pos c,geE (show i < xs.length by omega),aa]
   obtain ⟨b,e⟩:=gq xs[i].fm.fN
   rw [e,aa]
   split
   ·obtain ⟨b2,e2⟩:=gq xs[i].fm.fD
    rw [e2,aa]
    unfold jn
    simp only
    split
    ·exact tail xs h
    ·obtain ⟨us,e3,hu⟩:=put1 xs ⟨⟨(0,0,0,0,0,0,0,0),(0,0,0,0,0,0,0,0)⟩,xs[i].fP⟩ h
     rw [e3,aa]
     exact tail us hu
   ·obtain ⟨us,e3,hu⟩:=put1 xs ⟨⟨(0,0,0,0,0,0,0,0),(0,0,0,0,0,0,0,0)⟩,xs[i].fP⟩ h
    rw [e3,aa]
    exact tail us hu
  ·rw [if_neg c]
   exact ⟨_,I,h⟩
theorem bendAny (b:Tl) (xs:Lb Ta) (h0:0 < xs.length) (h8:xs.length <= 8):∃ r,cb_p FU b xs = some r/\r.length <= 9:=by
 have ha:=UInt8.toNat_lt b.fm
 unfold cb_p
 rw [oK _ (by omega),aa]
 unfold cg
 rw [if_neg (by omega),aa]
 have s0:0 <= ((b.fm.toNat:Nat):Int).tmod ((xs.length:Nat):Int):=Int.tmod_nonneg _ (by omega)
 have s1:((b.fm.toNat:Nat):Int).tmod ((xs.length:Nat):Int) < ((xs.length:Nat):Int):=Int.tmod_lt_of_pos _ (by omega)
 generalize ((b.fm.toNat:Nat):Int).tmod ((xs.length:Nat):Int) = s at s0 s1 ⊢
 have hs:s.toNat < xs.length:=by omega
 split
 ·rw [bg s0 hs,aa,cC _ hs,aa]
  exact ⟨_,rfl,by rw [List.length_set]; omega⟩
 ·split
  ·rw [bg s0 hs,aa,cC _ hs,aa]
   exact ⟨_,rfl,by rw [List.length_set]; omega⟩
  ·split
   ·rw [bg s0 hs,aa,bQ _ _ (by simp only [leC,leN]; omega),aa]
    exact ⟨_,rfl,by simp only [List.length_append,leC,leN]; omega⟩
   ·split
    ·rw [aS (by omega) (by omega),aa]
     unfold chk3
     rw [if_pos (by omega),aa,if_neg (by omega)]
     exact ⟨_,I,Nat.le_trans (List.length_take_le _ _) (by omega)⟩
    ·exact ⟨_,I,by omega⟩
set_option maxRecDepth 8000
theorem jY {T:Lb (Rat × Rat)} (h:∀ e ∈ T,FQ e.1/\FQ e.2) (hl:T.length <= 400):aM_p FU (T.map ms) = some (T.map mr):=by
 have hF:=aw
 have hh:=au (B:=aM_l1 FU (T.map ms)) (fun s=>T.length - s.1) (fun s=>∃ i,i <= T.length/\s = (i,(T.take i).map mr)) (fun r=>r = T.map mr) ?_ FU (0,[]) ⟨0,Nat.zero_le _,rfl⟩ (by simp only; omega)
 ·obtain ⟨r,e,rfl⟩:=hh
  unfold aM_p
  rw [e]; rfl
 ·rintro s J ⟨i,hi,rfl⟩ hJ
  unfold aM_l1
  simp only
  by_cases c:i < T.length
  ·obtain ⟨f1,f2⟩:=h _ (List.getElem_mem c)
   rw [if_pos (by simpa using c),geE (by simpa using c),aa,List.getElem_map,show (ms T[i]).fm = Sg T[i].1 from rfl,show (ms T[i]).fP = Sg T[i].2 from rfl,inS f1,aa,inS f2,aa,bQ _ _ (by simp only [List.length_map,List.length_take,leC,leN]; omega),aa]
   refine hJ _ ⟨i + 1,c,?_⟩ (by simp only; omega)
   rw [List.take_succ_eq_append_getElem c,List.map_append]; rfl
  ·rw [if_neg (by simpa using c)]
   refine ⟨_,I,?_⟩
   rw [List.take_of_length_le (by omega)]
set_option maxRecDepth 8000
theorem kh {l m:Nat} {a b:Rat} (ha:RF l a) (hb:RF m b) (h:l + m < 4000) (hm:m < 1000):cw_p FU (Rt a) (Rt b) = some (Rt (a - b))/\RF (l + m + 1) (a - b):=by
 have hF:=aw
 obtain ⟨e,f⟩:=dm ha hb.neg h
 rw [<- Rat.sub_eq_add_neg] at e f
 refine ⟨?_,f⟩
 unfold cw_p
 rw [na FU m b hb hm hF,aa,e,aa]
theorem lg {m:Nat} {b:Rat} (hb:RF m b) (hm:m < 4000):bX_p FU (RR b) = some (RR (-b)):=by
 have hF:=aw
 have:=hb.n.r.len
 unfold bX_p
 rw [show (RR b).fN = R8 b.num from I,jg FU _ (by omega) (by omega),aa]
 unfold RR
 rw [Rat.neg_num,Rat.neg_den]
theorem jv {l m:Nat} {a b:Rat} (ha:RF l a) (hb:RF m b) (h:l + m < 4000):bs_p FU (RR a) (RR b) = some (RR (a - b)):=by
 unfold bs_p
 rw [lg hb (by omega),aa,bZ ha hb.neg h,aa,Rat.sub_eq_add_neg]
def bz {σ:Type} (v:σ -> Rat):Lb σ -> Rat
 | []=>0
 | e :: l=>v e + bz v l
theorem lc {σ:Type} (v:σ -> Rat):∀ l m:Lb σ,bz v (l ++ m) = bz v l + bz v m
 | [],m=>by show bz v m = 0 + bz v m; rw [Rat.zero_add]
 | e :: l,m=>by show v e + bz v (l ++ m) = v e + bz v l + bz v m; rw [lc v l m,Rat.add_assoc]
theorem oc {σ:Type} (v:σ -> Rat) {l:Lb σ} {i:Nat} (h:i < l.length):bz v (l.take (i + 1)) = bz v (l.take i) + v l[i]:=by
 rw [List.take_succ_eq_append_getElem h,lc]
 show _ + (v l[i] + 0) = _
 rw [Rat.add_zero]
theorem kr {σ:Type} {v:σ -> Rat} {m:Nat}:∀ {l:Lb σ},(∀ e ∈ l,RF m (v e)) -> (m + 1) * l.length + m + 8 < 4000 -> RF ((m + 1) * l.length + 8) (bz v l)
 | [],_,_=>FQ0.rf
 | e :: l,h,hl=>by
  have e1:(m + 1) * (l.length + 1) = (m + 1) * l.length + (m + 1):=Nat.mul_succ ..
  rw [leC,e1] at hl ⊢
  exact (dm (h e (List.mem_cons_self ..)) (kr (l:=l) (fun d hd=>h d (List.mem_cons_of_mem _ hd)) (by omega)) (by omega)).2.mono (by omega)
theorem dD {σ R:Type} {l:Lb σ} {v:σ -> Rat} (m:Nat) (ρ:Rat -> R) {B:(Nat × R -> Oa R) -> Nat × R -> Oa R} (hv:∀ e ∈ l,RF m (v e)) (hl:(m + 1) * l.length + m + 8 < 4000)
  (h1:∀ J i q (c:i < l.length),RF ((m + 1) * l.length + 8) q -> B J (i,ρ q) = J (i + 1,ρ (q + v l[i]))) (h0:∀ J i q,¬ i < l.length -> B J (i,ρ q) = some (ρ q)):ao B FU (0,ρ 0) = some (ρ (bz v l))/\RF ((m + 1) * l.length + 8) (bz v l):=by
 have hF:=aw
 have hll:l.length <= (m + 1) * l.length:=Nat.le_mul_of_pos_left _ (by omega)
 have hh:=au (B:=B) (fun s=>l.length - s.1) (fun s=>∃ i,i <= l.length/\s = (i,ρ (bz v (l.take i)))) (fun r=>r = ρ (bz v l)) ?_ FU (0,ρ 0) ⟨0,Nat.zero_le _,rfl⟩ (by simp only; omega)
 ·obtain ⟨r,e,rfl⟩:=hh
  exact ⟨e,kr hv hl⟩
 ·rintro s J ⟨i,hi,rfl⟩ hJ
  by_cases c:i < l.length
  ·have ht:(l.take i).length <= l.length:=by rw [List.length_take]; omega
   have hm:=Nat.mul_le_mul_left (m + 1) ht
   rw [h1 J i _ c ((kr (fun e he=>hv e (List.mem_of_mem_take he)) (by omega)).mono (by omega)),<- oc v c]
   exact hJ _ ⟨i + 1,c,rfl⟩ (by simp only; omega)
  ·rw [h0 J i _ c]
   refine ⟨_,I,?_⟩
   rw [List.take_of_length_le (by omega)]
def ba (T:Lb (Rat × Rat)):Rat:=bz (fun e=>e.2 * e.1) T
def varQ (T:Lb (Rat × Rat)):Rat:=bz (fun e=>e.2 * ((e.1 - ba T) * (e.1 - ba T))) T
theorem qa {T:Lb (Rat × Rat)} (h:∀ e ∈ T,FQ e.1/\FQ e.2):∀ e ∈ T,RF 16 (e.2 * e.1):=fun e he=>(dz (h e he).2.rf (h e he).1.rf (by omega)).2
theorem pj {T:Lb (Rat × Rat)} (h:∀ e ∈ T,FQ e.1/\FQ e.2) (hl:T.length <= 9):ao (bZ_l1 FU (T.map ms)) FU (0,aN 0) = some (aN (ba T))/\RF 170 (ba T):=by
 have hF:=aw
 have hh:=dD 16 aN (B:=bZ_l1 FU (T.map ms)) (qa h) (by omega) (fun J i q c hq=>?_) fun J i q c=>?_
 ·exact ⟨hh.1,hh.2.mono (by omega)⟩
 ·obtain ⟨f1,f2⟩:=h _ (List.getElem_mem c)
  have ht:=dz f2.rf f1.rf (by omega)
  unfold bZ_l1 cH_p aN
  simp only
  rw [if_pos (by simpa using c),geE (by simpa using c),aa,List.getElem_map,pG f2,aa,show (ms T[i]).fm = Sg T[i].1 from rfl,dQ FU _ f1 (by omega),aa,aa,ht.1,aa]
  rw [rtE q,(dm hq ht.2 (by omega)).1,aa]
 ·unfold bZ_l1 aN
  simp only
  rw [if_neg (by simpa using c)]
theorem meanR {T:Lb (Rat × Rat)} (h:∀ e ∈ T,FQ e.1/\FQ e.2) (hl:T.length <= 9):aX_p FU (T.map mr) = some (RR (ba T)):=by
 have hF:=aw
 have hh:=dD 16 bb (B:=aX_l1 FU (T.map mr)) (qa h) (by omega) (fun J i q c hq=>?_) fun J i q c=>?_
 ·unfold aX_p
  rw [ft,aa]
  rw [show ((0:Nat),(RR 0).fN.fc,(RR 0).fN.fD,(RR 0).fD.fc,(RR 0).fD.fD) = (0,bb 0) from I,hh.1,aa]
  rfl
 ·obtain ⟨f1,f2⟩:=h _ (List.getElem_mem c)
  have ht:=dz f2.rf f1.rf (by omega)
  unfold aX_l1 bb
  simp only
  rw [if_pos (by simpa using c),geE (by simpa using c),aa,List.getElem_map,show (mr T[i]).fm = RR T[i].1 from rfl,show (mr T[i]).fP = RR T[i].2 from rfl,eK f2.rf f1.rf (by omega),aa]
  rw [rrE q,bZ hq ht.2 (by omega),aa]
 ·unfold aX_l1 bb
  simp only
  rw [if_neg (by simpa using c)]
open Classical in
theorem meanAny (x:Lb Ta) (hx:x.length <= 9):∃ r:Tb × Int,bZ_p FU x = some r/\ct_p FU x = some r:=by
 unfold bZ_p ct_p
 rw [gd x (by omega),aa,cr x (by omega),aa]
 by_cases cx:Okm x
 ·rw [decide_eq_true cx,if_pos cx]
  obtain ⟨T,rfl,gT,_,_⟩:=cx
  rw [List.length_map] at hx
  obtain ⟨e1,f⟩:=pj gT.fq hx
  rw [if_pos I,if_pos I,jF,aa]
  rw [show ((0:Nat),(Rt 0).fj.fc,(Rt 0).fj.fk,(Rt 0).fh.fc,(Rt 0).fh.fk) = (0,aN 0) from I,e1,aa]
  unfold aN
  dsimp only
  rw [rtE (ba T),lK,aa]
  rw [jY gT.fq (by omega),aa,meanR gT.fq hx,aa,fO f (by omega),aa]
  exact ⟨_,I,I⟩
 ·rw [if_neg cx,decide_eq_false cx,if_neg (by decide),if_neg (by decide)]
  exact ⟨_,I,I⟩
theorem varRF {T:Lb (Rat × Rat)} (h:∀ e ∈ T,FQ e.1/\FQ e.2) {m:Rat} (hm:RF 170 m):∀ e ∈ T,RF 366 (e.2 * ((e.1 - m) * (e.1 - m))):=fun e he=>by
 have h1:=(kh (h e he).1.rf hm (by omega) (by omega)).2
 exact (dz (h e he).2.rf (dz h1 h1 (by omega)).2 (by omega)).2
theorem varP {T:Lb (Rat × Rat)} (h:∀ e ∈ T,FQ e.1/\FQ e.2) (hl:T.length <= 9) {m:Rat} (hm:RF 170 m):ao (ba_l1 FU (T.map ms) (aN m).1 (aN m).2.1 (aN m).2.2.1 (aN m).2.2.2) FU (0,aN 0) = some (aN (bz (fun e=>e.2 * ((e.1 - m) * (e.1 - m))) T))/\RF 3500 (bz (fun e=>e.2 * ((e.1 - m) * (e.1 - m))) T):=by
 have hF:=aw
 have hh:=dD 366 aN (B:=ba_l1 FU (T.map ms) (aN m).1 (aN m).2.1 (aN m).2.2.1 (aN m).2.2.2) (varRF h hm) (by omega) (fun J i q c hq=>?_) fun J i q c=>?_
 ·exact ⟨hh.1,hh.2.mono (by omega)⟩
 ·obtain ⟨f1,f2⟩:=h _ (List.getElem_mem c)
  have h1:=kh f1.rf hm (by omega) (by omega)
  have h2:=dz h1.2 h1.2 (by omega)
  have ht:=dz f2.rf h2.2 (by omega)
  unfold ba_l1 cy_p aN
  simp only
  rw [if_pos (by simpa using c),geE (by simpa using c),aa,List.getElem_map,pG f2,aa,show (ms T[i]).fm = Sg T[i].1 from rfl,dQ FU _ f1 (by omega),aa]
  rw [rtE m,h1.1,aa,h2.1,aa,aa,ht.1,aa]
  rw [rtE q,(dm hq ht.2 (by omega)).1,aa]
 ·unfold ba_l1 aN
  simp only
  rw [if_neg (by simpa using c)]
theorem varR {T:Lb (Rat × Rat)} (h:∀ e ∈ T,FQ e.1/\FQ e.2) (hl:T.length <= 9) {m:Rat} (hm:RF 170 m):ao (aS_l1 FU (T.map mr) (RR m)) FU (0,bb 0) = some (bb (bz (fun e=>e.2 * ((e.1 - m) * (e.1 - m))) T)):=by
 have hF:=aw
 have hh:=dD 366 bb (B:=aS_l1 FU (T.map mr) (RR m)) (varRF h hm) (by omega) (fun J i q c hq=>?_) fun J i q c=>?_
 ·exact hh.1
 ·obtain ⟨f1,f2⟩:=h _ (List.getElem_mem c)
  have h1:=kh f1.rf hm (by omega) (by omega)
  have h2:=dz h1.2 h1.2 (by omega)
  have ht:=dz f2.rf h2.2 (by omega)
  unfold aS_l1 bb
  simp only
  rw [if_pos (by simpa using c),geE (by simpa using c),aa,List.getElem_map,show (mr T[i]).fm = RR T[i].1 from rfl,show (mr T[i]).fP = RR T[i].2 from rfl,jv f1.rf hm (by omega),aa,eK h1.2 h1.2 (by omega),aa,eK f2.rf h2.2 (by omega),aa]
  rw [rrE q,bZ hq ht.2 (by omega),aa]
 ·unfold aS_l1 bb
  simp only
  rw [if_neg (by simpa using c)]
theorem var2 {T:Lb (Rat × Rat)} (h:∀ e ∈ T,FQ e.1/\FQ e.2) (hl:T.length <= 9):ao (ba_l2 FU (T.map ms)) FU (0,aN 0) = some (aN (ba T)):=(pj h hl).1
open Classical in
theorem varAny (x:Lb Ta) (hx:x.length <= 9):∃ r:Tb × Int,ba_p FU x = some r/\aS_p FU x = some r:=by
 unfold ba_p aS_p
 rw [gd x (by omega),aa,cr x (by omega),aa]
 by_cases cx:Okm x
 ·rw [decide_eq_true cx,if_pos cx]
  obtain ⟨T,rfl,gT,_,_⟩:=cx
  rw [List.length_map] at hx
  obtain ⟨e1,f⟩:=pj gT.fq hx
  obtain ⟨e2,f2⟩:=varP gT.fq hx f
  rw [if_pos I,if_pos I,jF,aa]
  rw [show ((0:Nat),(Rt 0).fj.fc,(Rt 0).fj.fk,(Rt 0).fh.fc,(Rt 0).fh.fk) = (0,aN 0) from I,var2 gT.fq hx,aa]
  rw [show aN (ba T) = ((aN (ba T)).1,(aN (ba T)).2.1,(aN (ba T)).2.2.1,(aN (ba T)).2.2.2) from I]
  dsimp only
  rw [aa,show ((0:Nat),(Rt 0).fj.fc,(Rt 0).fj.fk,(Rt 0).fh.fc,(Rt 0).fh.fk) = (0,aN 0) from I,e2,aa]
  unfold aN
  dsimp only
  rw [show (⟨⟨(Rt (bz (fun e=>e.2 * ((e.1 - ba T) * (e.1 - ba T))) T)).fj.fc,(Rt (bz (fun e=>e.2 * ((e.1 - ba T) * (e.1 - ba T))) T)).fj.fk⟩,⟨(Rt (bz (fun e=>e.2 * ((e.1 - ba T) * (e.1 - ba T))) T)).fh.fc,(Rt (bz (fun e=>e.2 * ((e.1 - ba T) * (e.1 - ba T))) T)).fh.fk⟩⟩:Td) = Rt (varQ T) from I,lK,aa]
  rw [jY gT.fq (by omega),aa,meanR gT.fq hx,aa,ft,aa]
  rw [show ((0:Nat),(RR 0).fN.fc,(RR 0).fN.fD,(RR 0).fD.fc,(RR 0).fD.fD) = (0,bb 0) from I,varR gT.fq hx f,aa]
  unfold bb
  dsimp only
  rw [show (⟨⟨(RR (bz (fun e=>e.2 * ((e.1 - ba T) * (e.1 - ba T))) T)).fN.fc,(RR (bz (fun e=>e.2 * ((e.1 - ba T) * (e.1 - ba T))) T)).fN.fD⟩,⟨(RR (bz (fun e=>e.2 * ((e.1 - ba T) * (e.1 - ba T))) T)).fD.fc,(RR (bz (fun e=>e.2 * ((e.1 - ba T) * (e.1 - ba T))) T)).fD.fD⟩⟩:Tf) = RR (varQ T) from I,fO (q:=varQ T) f2 (by omega),aa]
  exact ⟨_,I,I⟩
 ·rw [if_neg cx,decide_eq_false cx,if_neg (by decide),if_neg (by decide)]
  exact ⟨_,I,I⟩
set_option maxRecDepth 8000
def lP (a:Rat) (s:Rat × Rat) (e:Rat × Rat):Rat × Rat:=if e.1 < a then (s.1,s.2 + e.2) else if e.1 = a then (e.2,s.2) else s
def bq (a:Rat) (T:Lb (Rat × Rat)):Rat × Rat:=T.foldl (lP a) (0,0)
theorem fB {a:Rat} {T:Lb (Rat × Rat)} {i:Nat} (h:i < T.length):bq a (T.take (i + 1)) = lP a (bq a (T.take i)) T[i]:=by
 unfold bq
 rw [List.take_succ_eq_append_getElem h,List.foldl_append]; rfl
theorem gi {a:Rat} {T:Lb (Rat × Rat)} (h:∀ e ∈ T,FQ e.1/\FQ e.2) (hl:T.length <= 9):∀ i,i <= T.length -> FQ (bq a (T.take i)).1/\RF (9 * i + 8) (bq a (T.take i)).2
 | 0,_=>⟨FQ0,FQ0.rf⟩
 | i + 1,hi=>by
  obtain ⟨h1,h2⟩:=gi (a:=a) h hl i (by omega)
  have f:=(h _ (List.getElem_mem (show i < T.length by omega))).2
  rw [fB (by omega)]
  unfold lP
  split
  ·exact ⟨h1,(dm h2 f.rf (by omega)).2.mono (by omega)⟩
  ·split
   ·exact ⟨f,h2.mono (by omega)⟩
   ·exact ⟨h1,h2.mono (by omega)⟩
def jl (s:Rat × Rat):Bool × Lb Ua × Bool × Lb Ua × Bool × Lb Ua × Bool × Lb Ua:=
 ((Rt s.1).fj.fc,(Rt s.1).fj.fk,(Rt s.1).fh.fc,(Rt s.1).fh.fk,aN s.2)
def eZ (s:Rat × Rat):Bool × Lb Int × Bool × Lb Int × Bool × Lb Int × Bool × Lb Int:=
 ((RR s.1).fN.fc,(RR s.1).fN.fD,(RR s.1).fD.fc,(RR s.1).fD.fD,bb s.2)
theorem belowP {T:Lb (Rat × Rat)} {a:Rat} (h:∀ e ∈ T,FQ e.1/\FQ e.2) (ha:FQ a) (hl:T.length <= 9):ao (bR_l1 FU (T.map ms) (Sg a)) FU (0,jl (0,0)) = some (jl ((bq a T).2,(bq a T).1)):=by
 have hF:=aw
 have hh:=au (B:=bR_l1 FU (T.map ms) (Sg a)) (fun s=>T.length - s.1) (fun s=>∃ i,i <= T.length/\s = (i,jl (bq a (T.take i)))) (fun r=>r = jl ((bq a T).2,(bq a T).1)) ?_ FU (0,jl (0,0)) ⟨0,Nat.zero_le _,rfl⟩ (by simp only; omega)
 ·obtain ⟨r,e,rfl⟩:=hh
  exact e
 ·rintro s J ⟨i,hi,rfl⟩ hJ
  obtain ⟨r1,r2⟩:=gi (a:=a) h hl i hi
  by_cases c:i < T.length
  ·obtain ⟨f1,f2⟩:=h _ (List.getElem_mem c)
   have hn:=hJ (i + 1,jl (bq a (T.take (i + 1)))) ⟨i + 1,c,rfl⟩ (by simp only; omega)
   rw [fB c] at hn
   unfold bR_l1 jl aN jn
   simp only
   rw [if_pos (by simpa using c),geE (by simpa using c),aa,List.getElem_map,show (ms T[i]).fm = Sg T[i].1 from rfl,dQ FU _ f1 (by omega),aa,dQ FU _ ha (by omega),aa,nH f1.rf ha.rf (by omega),aa]
   unfold lP at hn
   by_cases c1:T[i].1 < a
   ·rw [if_pos c1] at hn
    rw [if_pos (bH.2 c1),pG f2,aa,rtE (bq a (T.take i)).2,(dm r2 f2.rf (by omega)).1,aa]
    exact hn
   ·rw [if_neg c1] at hn
    rw [if_neg (fun hc=>c1 (bH.1 hc))]
    by_cases c2:T[i].1 = a
    ·rw [if_pos c2] at hn
     rw [if_pos (aZ.2 c2),pG f2,aa]
     exact hn
    ·rw [if_neg c2] at hn
     rw [if_neg (fun hc=>c2 (aZ.1 hc))]
     exact hn
  ·unfold bR_l1 jl aN
   simp only
   rw [if_neg (by simpa using c)]
   refine ⟨_,I,?_⟩
   rw [List.take_of_length_le (by omega)]
theorem belowR {T:Lb (Rat × Rat)} {a:Rat} (h:∀ e ∈ T,FQ e.1/\FQ e.2) (ha:FQ a) (hl:T.length <= 9):ao (bj_l1 FU (T.map mr) (RR a)) FU (0,eZ (0,0)) = some (eZ ((bq a T).2,(bq a T).1)):=by
 have hF:=aw
 have hh:=au (B:=bj_l1 FU (T.map mr) (RR a)) (fun s=>T.length - s.1) (fun s=>∃ i,i <= T.length/\s = (i,eZ (bq a (T.take i)))) (fun r=>r = eZ ((bq a T).2,(bq a T).1)) ?_ FU (0,eZ (0,0)) ⟨0,Nat.zero_le _,rfl⟩ (by simp only; omega)
 ·obtain ⟨r,e,rfl⟩:=hh
  exact e
 ·rintro s J ⟨i,hi,rfl⟩ hJ
  obtain ⟨r1,r2⟩:=gi (a:=a) h hl i hi
  by_cases c:i < T.length
  ·obtain ⟨f1,f2⟩:=h _ (List.getElem_mem c)
   have hn:=hJ (i + 1,eZ (bq a (T.take (i + 1)))) ⟨i + 1,c,rfl⟩ (by simp only; omega)
   rw [fB c] at hn
   unfold bj_l1 eZ bb jn
   simp only
   rw [if_pos (by simpa using c),geE (by simpa using c),aa,List.getElem_map,show (mr T[i]).fm = RR T[i].1 from rfl,show (mr T[i]).fP = RR T[i].2 from rfl,bI f1.rf ha.rf (by omega),aa]
   unfold lP at hn
   by_cases c1:T[i].1 < a
   ·rw [if_pos c1] at hn
    rw [if_pos (bH.2 c1),rrE (bq a (T.take i)).2,bZ r2 f2.rf (by omega),aa,if_neg (by have:=bH.2 c1; omega)]
    exact hn
   ·rw [if_neg c1] at hn
    rw [if_neg (fun hc=>c1 (bH.1 hc))]
    by_cases c2:T[i].1 = a
    ·rw [if_pos c2] at hn
     rw [if_pos (aZ.2 c2)]
     exact hn
    ·rw [if_neg c2] at hn
     rw [if_neg (fun hc=>c2 (aZ.1 hc))]
     exact hn
  ·unfold bj_l1 eZ bb
   simp only
   rw [if_neg (by simpa using c)]
   refine ⟨_,I,?_⟩
   rw [List.take_of_length_le (by omega)]
open Classical in
theorem qi (x:Lb Ta) (a:Tb) (hx:x.length <= 9):ar_p FU [x] [a] = some (if Okm x then if ∃ q,FQ q/\a = Sg q then 0 else 20 else 50):=by
 rw [lr [x] [a] (by simp) (fun z h=>by rw [List.mem_singleton.1 h]; omega) (by simp)]
 congr 1
 have e1:Oks [x] ↔ Okm x:=⟨fun h=>h x (by simp),fun h z hz=>by rw [List.mem_singleton.1 hz]; exact h⟩
 have e2:Shs [a] ↔ ∃ q,FQ q/\a = Sg q:=⟨fun h=>h a (by simp),fun h z hz=>by rw [List.mem_singleton.1 hz]; exact h⟩
 by_cases c1:Okm x
 ·rw [if_pos c1,if_pos (e1.2 c1)]
  by_cases c2:∃ q,FQ q/\a = Sg q
  ·rw [if_pos c2,if_pos (e2.2 c2)]
  ·rw [if_neg c2,if_neg fun h=>c2 (e2.1 h)]
 ·rw [if_neg c1,if_neg fun h=>c1 (e1.1 h)]
open Classical in
theorem oN (x:Lb Ta) (a:Tb) (hx:x.length <= 9):∃ r:Tb × Tb × Int,bR_p FU x a = some r/\bj_p FU x a = some r:=by
 unfold bR_p bj_p
 rw [qi x a hx,aa,cr x (by omega),aa]
 by_cases cx:Okm x
 ·rw [decide_eq_true cx,if_pos cx]
  rcases bC a with ⟨q,fq,rfl⟩ | ⟨e0,e1⟩
  ·obtain ⟨T,rfl,gT,_,_⟩:=cx
   rw [List.length_map] at hx
   obtain ⟨r1,r2⟩:=gi (a:=q) gT.fq hx T.length (Nat.le_refl _)
   rw [List.take_length] at r1 r2
   rw [if_pos (show ∃ p,FQ p/\Sg q = Sg p from ⟨q,fq,rfl⟩),if_pos I,if_pos I,jF,aa,aa]
   rw [show ((0:Nat),(Rt 0).fj.fc,(Rt 0).fj.fk,(Rt 0).fh.fc,(Rt 0).fh.fk,(Rt 0).fj.fc,(Rt 0).fj.fk,(Rt 0).fh.fc,(Rt 0).fh.fk) = (0,jl (0,0)) from I,belowP gT.fq fq hx,aa]
   unfold jl aN
   dsimp only
   rw [rtE (bq q T).2,lK,aa]
   rw [rtE (bq q T).1,lK,aa]
   rw [gC fq,aa,if_pos I,jY gT.fq (by omega),aa,inS fq,aa,ft,aa,aa]
   rw [show ((0:Nat),(RR 0).fN.fc,(RR 0).fN.fD,(RR 0).fD.fc,(RR 0).fD.fD,(RR 0).fN.fc,(RR 0).fN.fD,(RR 0).fD.fc,(RR 0).fD.fD) = (0,eZ (0,0)) from I,belowR gT.fq fq hx,aa]
   unfold eZ bb
   dsimp only
   rw [rrE (bq q T).2,fO r2 (by omega),aa]
   rw [rrE (bq q T).1,fO r1.rf (by omega),aa]
   by_cases d1:FQ (bq q T).2
   ·by_cases d2:FQ (bq q T).1
    ·rw [if_pos d1,if_pos d2]
     exact ⟨_,I,I⟩
    ·rw [if_pos d1,if_neg d2]
     exact ⟨_,I,I⟩
   ·rw [if_neg d1]
    exact ⟨_,I,I⟩
  ·have hs:¬ ∃ q,FQ q/\a = Sg q:=fun ⟨q,fq,e⟩=>by
    rw [e,fx fq] at e0
    cases e0
   rw [e1,aa,if_neg hs,if_neg (by decide),if_pos I,if_neg (by decide)]
   exact ⟨_,I,I⟩
 ·rw [decide_eq_false cx,if_neg cx,if_neg (by decide),if_neg (by decide)]
  exact ⟨_,I,I⟩
theorem gY {T:Lb (Rat × Rat)} (h:∀ e ∈ T,FQ e.1/\FQ e.2) (hl:T.length <= 9) (i:Nat):RF 100 (sW (T.take i)):=by
 by_cases c:i <= T.length
 ·exact (fC h (by omega) i c).mono (by omega)
 ·have:=fC h (by omega) T.length (Nat.le_refl _)
  rw [List.take_length] at this
  rw [List.take_of_length_le (by omega)]
  exact this.mono (by omega)
theorem kM {T:Lb (Rat × Rat)} (h:∀ e ∈ T,0 < e.2) (i:Nat):∀ d,sW (T.take i) <= sW (T.take (i + d))
 | 0=>Rat.le_refl
 | d + 1=>by
  have ih:=kM h i d
  by_cases c:i + d < T.length
  ·have hp:=h _ (List.getElem_mem c)
   rw [show i + (d + 1) = i + d + 1 from I,fM c]
   grind
  ·rw [List.take_of_length_le (i:=i + (d + 1)) (by omega)]
   rwa [List.take_of_length_le (i:=i + d) (by omega)] at ih
theorem Qn.one {T:Lb (Rat × Rat)} {x:Rat} {i j:Nat} (h:∀ e ∈ T,0 < e.2) (a:Qn T x i) (b:Qn T x j):i = j:=by
 rcases Nat.lt_trichotomy i j with c | c | c
 ·have h1:=kM h (i + 1) (j - (i + 1))
  rw [show i + 1 + (j - (i + 1)) = j by omega] at h1
  have:=a.le
  have:=b.lt
  grind
 ·exact c
 ·have h1:=kM h (j + 1) (i - (j + 1))
  rw [show j + 1 + (i - (j + 1)) = i by omega] at h1
  have:=b.le
  have:=a.lt
  grind
theorem quantP {T:Lb (Rat × Rat)} {x:Rat} (h:∀ e ∈ T,FQ e.1/\FQ e.2) (h1:sW T = 1) (hl:T.length <= 9) (hx:FQ x) (x0:0 < x) (x1:x <= 1):∃ (j:Nat) (hj:j < T.length),ao (bb_l1 FU (T.map ms) (Rt x)) FU (qst 0 noS 0) = some (qre (Sg T[j].1))/\Qn T x j:=by
 have hF:=aw
 have hh:=au (B:=bb_l1 FU (T.map ms) (Rt x)) (fun s=>T.length - s.1) (fun s=>∃ i w,i <= T.length/\s = qst i w (sW (T.take i))/\sW (T.take i) < x)
   (fun r=>∃ (j:Nat) (hj:j < T.length),r = qre (Sg T[j].1)/\Qn T x j) ?_ FU (qst 0 noS 0) ⟨0,noS,Nat.zero_le _,I,x0⟩ (by show T.length - 0 < FU; omega)
 ·obtain ⟨r,e,j,hj,rfl,hq⟩:=hh
  exact ⟨j,hj,e,hq⟩
 ·rintro s J ⟨i,w,hi,rfl,hw⟩ hJ
  unfold bb_l1 qst
  simp only
  by_cases c:i < T.length
  ·have f:=h _ (List.getElem_mem c)
   rw [if_pos (by simpa using c),geE (by simpa using c),aa,List.getElem_map,pG f.2,aa]
   rw [rtE (sW (T.take i)),(dm (gY h hl i) f.2.rf (by omega)).1,aa,<- fM c,nH (gY h hl (i + 1)) hx.rf (by omega),aa]
   by_cases c1:0 <= sgn (sW (T.take (i + 1))) x
   ·rw [if_pos c1]
    exact ⟨_,I,i,c,I,hw,Rat.not_lt.1 fun hc=>by have:=bH.2 hc; omega⟩
   ·rw [if_neg c1]
    exact hJ (qst (i + 1) (Sg T[i].1) (sW (T.take (i + 1)))) ⟨i + 1,_,c,I,bH.1 (by omega)⟩ (by show T.length - (i + 1) < T.length - i; omega)
  ·exfalso
   rw [List.take_of_length_le (by omega),h1] at hw
   grind
theorem quantR {T:Lb (Rat × Rat)} {x:Rat} (h:∀ e ∈ T,FQ e.1/\FQ e.2) (h1:sW T = 1) (hl:T.length <= 9) (hx:FQ x) (x0:0 < x) (x1:x <= 1):∃ (j:Nat),j < T.length/\ao (aT_l1 FU (RR x) (T.map mr)) FU (-1,bb 0) = some (j:Int)/\Qn T x j:=by
 have hF:=aw
 have hh:=au (B:=aT_l1 FU (RR x) (T.map mr)) (fun s=>(T.length - s.1).toNat) (fun s=>∃ i:Nat,i <= T.length/\s = ((i:Int) - 1,bb (sW (T.take i)))/\∀ j,j + 1 = i -> sW (T.take j) < x)
   (fun r=>∃ j:Nat,j < T.length/\r = (j:Int)/\Qn T x j) ?_ FU (-1,bb 0) ⟨0,Nat.zero_le _,rfl,fun j hj=>by omega⟩ (by simp only; omega)
 ·obtain ⟨r,e,j,hj,rfl,hq⟩:=hh
  exact ⟨j,hj,e,hq⟩
 ·rintro s J ⟨i,hi,rfl,hw⟩ hJ
  unfold aT_l1 bb
  simp only
  rw [rrE (sW (T.take i)),bI (gY h hl i) hx.rf (by omega),aa]
  by_cases c1:sW (T.take i) < x
  ·have c:i < T.length:=by
    refine Nat.lt_of_not_le fun hc=>?_
    rw [List.take_of_length_le hc,h1] at c1
    grind
   have f:=h _ (List.getElem_mem c)
   rw [if_pos (bH.2 c1),aS (by omega) (by omega),aa,show (i:Int) - 1 + 1 = i by omega,bg (by omega) (by simpa using c),aa]
   simp only [Int.toNat_natCast]
   rw [List.getElem_map,show (mr T[i]).fP = RR T[i].2 from I,bZ (gY h hl i) f.2.rf (by omega),aa,<- fM c]
   have hr:=hJ (((i + 1:Nat):Int) - 1,bb (sW (T.take (i + 1)))) ⟨i + 1,c,rfl,fun j hj=>by rw [show j = i by omega]; exact c1⟩ (by simp only; omega)
   rw [show (((i + 1:Nat):Int) - 1) = (i:Int) by omega] at hr
   exact hr
  ·rw [if_neg fun hc=>c1 (bH.1 hc)]
   have i0:i ≠ 0:=fun hc=>by
    subst hc
    exact c1 x0
   refine ⟨_,I,i - 1,by omega,by omega,hw (i - 1) (by omega),?_⟩
   rw [show i - 1 + 1 = i by omega]
   exact Rat.not_lt.1 c1
theorem sgn0 {q:Rat}:q.num.sign <= 0 ↔ ¬ 0 < q:=by
 refine ⟨fun h hc=>?_,fun h=>?_⟩
 ·rw [Int.sign_eq_one_of_pos (mG hc)] at h
  omega
 ·have:=numneg (Rat.not_lt.1 h)
  rcases Int.lt_trichotomy q.num 0 with c | c | c
  ·rw [Int.sign_eq_neg_one_of_neg c]; decide
  ·rw [c]; decide
  ·omega
open Classical in
theorem qc (x:Lb Ta) (a:Tb) (hx:x.length <= 9):∃ r:Tb × Int,bb_p FU x a = some r/\aT_p FU x a = some r:=by
 unfold bb_p aT_p
 rw [qi x a hx,aa,cr x (by omega),aa]
 by_cases cx:Okm x
 ·rw [decide_eq_true cx,if_pos cx]
  rcases bC a with ⟨q,fq,rfl⟩ | ⟨e0,e1⟩
  ·obtain ⟨T,rfl,gT,s1,_⟩:=cx
   rw [List.length_map] at hx
   rw [if_pos (show ∃ p,FQ p/\Sg q = Sg p from ⟨q,fq,rfl⟩),if_pos I,if_pos I,dQ FU _ fq (by have:=aw; omega),aa,show (Rt q).fj = L q.num from I,cK,aa,gC fq,aa,if_pos I,inS fq,aa,ft,aa,bI fq.rf FQ0.rf (by omega),aa]
   by_cases c0:0 < q
   ·rw [if_neg (fun hc=>sgn0.1 hc c0),if_neg (by have:=cL.2 c0; omega),from1,aa,nH fq.rf FQ1.rf (by omega),aa,oneR,aa,bI fq.rf FQ1.rf (by omega),aa]
    by_cases c1:0 < sgn q 1
    ·rw [if_pos c1,if_pos c1]
     exact ⟨_,I,I⟩
    ·rw [if_neg c1,if_neg c1,jF,aa,jY gT.fq (by omega),aa,aa]
     have q1:q <= 1:=Rat.not_lt.1 fun hc=>c1 (cL.2 hc)
     obtain ⟨j,hj,e2,n2⟩:=quantP gT.fq s1 hx fq c0 q1
     obtain ⟨i,hi,e3,n3⟩:=quantR gT.fq s1 hx fq c0 q1
     have:=n2.one gT.pos n3
     subst this
     unfold jn
     simp only
     refine ⟨(Sg T[j].1,0),?_,?_⟩
     ·show Option.bind (ao (bb_l1 FU (T.map ms) (Rt q)) FU (qst 0 noS 0)) _ = _
      rw [e2]; rfl
     ·show Option.bind (ao (aT_l1 FU (RR q) (T.map mr)) FU (-1,bb 0)) _ = _
      rw [e3,aa,bg (by omega) (by simpa using hi),aa]
      simp only [Int.toNat_natCast]
      rw [List.getElem_map]; rfl
   ·rw [if_pos (sgn0.2 c0),if_pos (by have:=mt (cL (a:=q) (b:=0)).1 c0; omega)]
    exact ⟨_,I,I⟩
  ·have hs:¬ ∃ q,FQ q/\a = Sg q:=fun ⟨q,fq,e⟩=>by
    rw [e,fx fq] at e0
    cases e0
   rw [e1,aa,if_neg hs,if_neg (by decide),if_pos I,if_neg (by decide)]
   exact ⟨_,I,I⟩
 ·rw [decide_eq_false cx,if_neg cx,if_neg (by decide),if_neg (by decide)]
  exact ⟨_,I,I⟩
set_option maxRecDepth 8000
theorem nw_wh {T U:Lb (Rat × Rat)} (hT:∀ e ∈ T,FQ e.1/\FQ e.2) (hU:∀ e ∈ U,FQ e.1/\FQ e.2) (lT:T.length <= 9) (lU:U.length <= 9):Wh 8 8 180 (T ++ nw U):=by
 have hl:(T ++ nw U).length <= 18:=by
  rw [List.length_append,show (nw U).length = U.length from List.length_map ..]
  omega
 refine ⟨fun e he=>?_,fun e he=>?_,by omega,by omega,by omega⟩
 ·rcases List.mem_append.1 he with he | he
  ·exact (hT e he).1.rf
  ·obtain ⟨d,hd,rfl⟩:=List.mem_map.1 he
   exact (hU d hd).1.rf
 ·rcases List.mem_append.1 he with he | he
  ·exact (hT e he).2.rf
  ·obtain ⟨d,hd,rfl⟩:=List.mem_map.1 he
   exact (hU d hd).2.rf.neg
theorem nw_key {T U:Lb (Rat × Rat)} (hT:∀ e ∈ T,FQ e.1/\FQ e.2) (hU:∀ e ∈ U,FQ e.1/\FQ e.2):∀ e ∈ T ++ nw U,FQ e.1:=fun e he=>by
 rcases List.mem_append.1 he with he | he
 ·exact (hT e he).1
 ·obtain ⟨d,hd,rfl⟩:=List.mem_map.1 he
  exact (hU d hd).1
theorem distP {T U:Lb (Rat × Rat)} (hT:∀ e ∈ T,FQ e.1/\FQ e.2) (hU:∀ e ∈ U,FQ e.1/\FQ e.2) (lT:T.length <= 9) (lU:U.length <= 9) :
  ao (aQ_l2 FU (T.map ms)) FU (0,[]) = some ((cA T).map mk2)/\ao (aQ_l1 FU (U.map ms)) FU (0,(cA T).map mk2) = some ((cA (T ++ nw U)).map mk2):=by
 have hF:=aw
 have hn:(nw U).length = U.length:=List.length_map ..
 have hW:=nw_wh hT hU lT lU
 have hK:=nw_key hT hU
 constructor
 ·have hh:=au (B:=aQ_l2 FU (T.map ms)) (fun s=>T.length - s.1) (fun s=>∃ i,i <= T.length/\s = (i,(cA (T.take i)).map mk2)) (fun r=>r = (cA T).map mk2) ?_ FU (0,[]) ⟨0,Nat.zero_le _,rfl⟩ (by simp only; omega)
  ·obtain ⟨r,e,rfl⟩:=hh
   exact e
  ·rintro s J ⟨i,hi,rfl⟩ hJ
   unfold aQ_l2
   simp only
   by_cases c:i < T.length
   ·have f:=hT _ (List.getElem_mem c)
    have hsp:T ++ nw U = T.take i ++ (T.drop i ++ nw U):=by rw [<- List.append_assoc,List.take_append_drop]
    have hd:=hW.gat hsp (dL _)
    have hf:=(dL (T.take i)).fq fun d hd=>hK d (by rw [hsp]; exact List.mem_append_left _ hd)
    rw [if_pos (by simpa using c),geE (by simpa using c),aa,List.getElem_map,pG f.2,aa,show (ms T[i]).fm = Sg T[i].1 from rfl]
    rw [pq f.1 f.2.rf hf (fun e he=>(hd e he).2) (by omega) (fun D=>J (i + 1,D))]
    refine hJ _ ⟨i + 1,c,?_⟩ (by simp only; omega)
    rw [nW c]
   ·rw [if_neg (by simpa using c)]
    refine ⟨_,I,?_⟩
    rw [List.take_of_length_le (by omega)]
 ·have hh:=au (B:=aQ_l1 FU (U.map ms)) (fun s=>U.length - s.1) (fun s=>∃ i,i <= U.length/\s = (i,(cA (T ++ (nw U).take i)).map mk2)) (fun r=>r = (cA (T ++ nw U)).map mk2) ?_ FU (0,(cA T).map mk2) ⟨0,Nat.zero_le _,by rw [List.take_zero,List.append_nil]⟩ (by simp only; omega)
  ·obtain ⟨r,e,rfl⟩:=hh
   exact e
  ·rintro s J ⟨i,hi,rfl⟩ hJ
   unfold aQ_l1
   simp only
   by_cases c:i < U.length
   ·have f:=hU _ (List.getElem_mem c)
    have hsp:T ++ nw U = (T ++ (nw U).take i) ++ (nw U).drop i:=by rw [List.append_assoc,List.take_append_drop]
    have hd:=hW.gat hsp (dL _)
    have hf:=(dL (T ++ (nw U).take i)).fq fun d hd=>hK d (by rw [hsp]; exact List.mem_append_left _ hd)
    rw [if_pos (by simpa using c),geE (by simpa using c),aa,List.getElem_map,pG f.2,aa,na FU 8 _ f.2.rf (by decide) hF,aa,show (ms U[i]).fm = Sg U[i].1 from rfl]
    rw [pq f.1 f.2.rf.neg hf (fun e he=>(hd e he).2) (by omega) (fun D=>J (i + 1,D))]
    refine hJ _ ⟨i + 1,c,?_⟩ (by simp only; omega)
    unfold cA
    rw [List.take_succ_eq_append_getElem (by rw [hn]; exact c),<- List.append_assoc]
    simp only [List.foldl_append,nw,List.getElem_map]
    rfl
   ·rw [if_neg (by simpa using c)]
    refine ⟨_,I,?_⟩
    rw [List.take_of_length_le (by rw [hn]; omega)]
theorem pd {q:Rat} {e:Rat × Rat} {b:Nat} (hq:RF b q) (he:RF 180 e.2) (hb:b < 3600):ng (aN q) (mk2 e) = aN (q + cI e.2)/\RF (b + 181) (q + cI e.2):=by
 obtain ⟨z,z1,z2⟩:=sideG e.2
 unfold ng
 rw [show (mk2 e).2 = Rt e.2 from I,z1]
 simp only
 unfold cI
 by_cases c:0 < e.2
 ·rw [if_pos (z2.2 c),if_pos c,show (⟨⟨(aN q).1,(aN q).2.1⟩,⟨(aN q).2.2.1,(aN q).2.2.2⟩⟩:Td) = Rt q from I,(dm hq he (by omega)).1]
  exact ⟨I,(dm hq he (by omega)).2.mono (by omega)⟩
 ·rw [if_neg (fun hc=>c (z2.1 hc)),if_neg c,Rat.add_zero]
  exact ⟨I,hq.mono (by omega)⟩
theorem foldH:∀ (l:Lb (Rat × Rat)) (q:Rat) (b:Nat),(∀ e ∈ l,RF 180 e.2) -> RF b q -> b + 181 * l.length < 3600 -> (l.map mk2).foldl ng (aN q) = aN (q + sP l)
 | [],q,b,_,_,_=>by rw [show sP [] = 0 from I,Rat.add_zero]; rfl
 | e :: l,q,b,h,hq,hl=>by
  rw [leC] at hl
  obtain ⟨s1,s2⟩:=pd hq (h e (List.mem_cons_self ..)) (by omega)
  rw [List.map_cons,List.foldl_cons,s1,show sP (e :: l) = cI e.2 + sP l from I,<- Rat.add_assoc]
  exact foldH l _ _ (fun d hd=>h d (List.mem_cons_of_mem _ hd)) s2 (by omega)
open Classical in
theorem distF {T U:Lb (Rat × Rat)} (hT:∀ e ∈ T,FQ e.1/\FQ e.2) (hU:∀ e ∈ U,FQ e.1/\FQ e.2) (lT:T.length <= 9) (lU:U.length <= 9) (ask:ar_p FU [T.map ms,U.map ms] [] = some 0) :
  aQ_p FU (T.map ms) (U.map ms) = some (if FQ (dsk T U ((cA (T ++ nw U)).map (·.1))) then (Sg (dsk T U ((cA (T ++ nw U)).map (·.1))),0) else (noS,6)):=by
 have hF:=aw
 obtain ⟨e1,e2⟩:=distP hT hU lT lU
 have g:=dL (T ++ nw U)
 have hW:=nw_wh hT hU lT lU
 have hr:=hW.gat (List.append_nil _).symm g
 have hv:∀ e ∈ cA (T ++ nw U),e.2 = wt e.1 T - wt e.1 U:=fun e he=>by
  rw [((g.mem e).1 he).2,ky,nw_wt,Rat.sub_eq_add_neg]
 have hs:=sP_dk hv
 have hlen:(cA (T ++ nw U)).length <= 18:=by
  have a1:=g.len
  rw [List.length_append,show (nw U).length = U.length from List.length_map ..] at a1
  omega
 unfold aQ_p
 rw [ask,aa,if_pos I,e1,aa,e2,aa,jF,aa]
 refine iY (D:=(cA (T ++ nw U)).map mk2) ng (fun n s=>∃ q b,s = aN q/\RF b q/\b + 181 * n < 3600) _ ?_ FU ((cA (T ++ nw U)).map mk2) (aN 0) (by rw [List.length_map]; omega) (fun e he=>he) ⟨0,8,rfl,FQ0.rf,by rw [List.length_map]; omega⟩ fun l' hl' =>?_
 ·rintro n e J s ⟨q,b,rfl,hq,hb⟩ he
  obtain ⟨d,hd,rfl⟩:=List.mem_map.1 he
  have fd:=(hr d hd).2
  obtain ⟨s1,s2⟩:=pd hq fd (by omega)
  refine ⟨?_,q + cI d.2,b + 181,s1,s2,by omega⟩
  rw [s1]
  obtain ⟨z,z1,z2⟩:=sideG d.2
  unfold bG aN
  simp only
  rw [show (mk2 d).2 = Rt d.2 from I,z1,aa]
  unfold cI
  by_cases c:0 < d.2
  ·rw [if_pos (z2.2 c),if_pos c,rtE q,(dm hq fd (by omega)).1,aa]
  ·rw [if_neg (fun hc=>c (z2.1 hc)),if_neg c,Rat.add_zero]
 ·obtain ⟨l,hl,rfl⟩:=qd hl' _ I
  rw [foldH l 0 8 (fun e he=>(hr e (hl.mem_iff.1 he)).2) FQ0.rf (by rw [hl.length_eq]; omega),Rat.zero_add,sP_perm hl,hs]
  show ((ac_p FU (Rt (dsk T U ((cA (T ++ nw U)).map (·.1))))).bind _) = _
  rw [lK,aa]
def z0 (T:Lb (Rat × Rat)):Lb (Rat × Rat):=T.map fun e=>(e.1,0)
theorem cB (T:Lb (Rat × Rat)):(z0 T).length = T.length:=List.length_map ..
theorem nc (T:Lb (Rat × Rat)):(z0 T).map (·.1) = T.map (·.1):=by
 unfold z0
 rw [List.map_map]; rfl
theorem z0_at {T:Lb (Rat × Rat)} {i:Nat} (h:i < T.length):(z0 T)[i]'(by rw [cB]; exact h) = (T[i].1,0):=by unfold z0; rw [List.getElem_map]
theorem z0_wh {T U:Lb (Rat × Rat)} (hT:∀ e ∈ T,FQ e.1/\FQ e.2) (hU:∀ e ∈ U,FQ e.1/\FQ e.2) (lT:T.length <= 9) (lU:U.length <= 9):Wh 8 8 180 (z0 T ++ z0 U):=by
 have hl:(z0 T ++ z0 U).length <= 18:=by
  rw [List.length_append,cB,cB]
  omega
 refine ⟨fun e he=>?_,fun e he=>?_,by omega,by omega,by omega⟩
 ·rcases List.mem_append.1 he with he | he
  ·obtain ⟨d,hd,rfl⟩:=List.mem_map.1 he
   exact (hT d hd).1.rf
  ·obtain ⟨d,hd,rfl⟩:=List.mem_map.1 he
   exact (hU d hd).1.rf
 ·rcases List.mem_append.1 he with he | he
  ·obtain ⟨d,hd,rfl⟩:=List.mem_map.1 he
   exact FQ0.rf
  ·obtain ⟨d,hd,rfl⟩:=List.mem_map.1 he
   exact FQ0.rf
theorem allR {T U:Lb (Rat × Rat)} (hT:∀ e ∈ T,FQ e.1/\FQ e.2) (hU:∀ e ∈ U,FQ e.1/\FQ e.2) (lT:T.length <= 9) (lU:U.length <= 9) :
  ao (ae_l3 FU (T.map mr)) FU ([],0) = some ((bN (z0 T)).map mr)/\ao (ae_l2 FU (U.map mr)) FU ((bN (z0 T)).map mr,0) = some ((bN (z0 T ++ z0 U)).map mr):=by
 have hF:=aw
 have hW:=z0_wh hT hU lT lU
 have hwl:=hW.len
 constructor
 ·have hh:=au (B:=ae_l3 FU (T.map mr)) (fun s=>T.length - s.2) (fun s=>∃ i,i <= T.length/\s = ((bN ((z0 T).take i)).map mr,i)) (fun r=>r = (bN (z0 T)).map mr) ?_ FU ([],0) ⟨0,Nat.zero_le _,rfl⟩ (by simp only; omega)
  ·obtain ⟨r,e,rfl⟩:=hh
   exact e
  ·rintro s J ⟨i,hi,rfl⟩ hJ
   unfold ae_l3
   simp only
   by_cases c:i < T.length
   ·have f:=hT _ (List.getElem_mem c)
    obtain ⟨c1,c2⟩:=mh ((z0 T).take i)
    have hsp:z0 T ++ z0 U = (z0 T).take i ++ ((z0 T).drop i ++ z0 U):=by rw [<- List.append_assoc,List.take_append_drop]
    have hd:=hW.gat hsp c1
    have hcl:=c1.len
    rw [List.length_take,cB] at hcl
    rw [if_pos (by simpa using c),geE (by simpa using c),aa,List.getElem_map,ft,aa,show (mr T[i]).fm = RR T[i].1 from rfl,putH hd f.1.rf FQ0.rf (by omega) (by omega) (by omega),aa]
    refine hJ _ ⟨i + 1,c,?_⟩ (by simp only; omega)
    rw [List.take_succ_eq_append_getElem (by rw [cB]; exact c),z0_at c,iO]
   ·rw [if_neg (by simpa using c)]
    refine ⟨_,I,?_⟩
    rw [List.take_of_length_le (by rw [cB]; omega)]
 ·have hh:=au (B:=ae_l2 FU (U.map mr)) (fun s=>U.length - s.2) (fun s=>∃ i,i <= U.length/\s = ((bN (z0 T ++ (z0 U).take i)).map mr,i)) (fun r=>r = (bN (z0 T ++ z0 U)).map mr) ?_ FU ((bN (z0 T)).map mr,0) ⟨0,Nat.zero_le _,by rw [List.take_zero,List.append_nil]⟩ (by simp only; omega)
  ·obtain ⟨r,e,rfl⟩:=hh
   exact e
  ·rintro s J ⟨i,hi,rfl⟩ hJ
   unfold ae_l2
   simp only
   by_cases c:i < U.length
   ·have f:=hU _ (List.getElem_mem c)
    obtain ⟨c1,c2⟩:=mh (z0 T ++ (z0 U).take i)
    have hsp:z0 T ++ z0 U = (z0 T ++ (z0 U).take i) ++ (z0 U).drop i:=by rw [List.append_assoc,List.take_append_drop]
    have hd:=hW.gat hsp c1
    have hcl:=c1.len
    rw [List.length_append,List.length_take,cB,cB] at hcl
    rw [if_pos (by simpa using c),geE (by simpa using c),aa,List.getElem_map,ft,aa,show (mr U[i]).fm = RR U[i].1 from rfl,putH hd f.1.rf FQ0.rf (by omega) (by omega) (by omega),aa]
    refine hJ _ ⟨i + 1,c,?_⟩ (by simp only; omega)
    rw [List.take_succ_eq_append_getElem (by rw [cB]; exact c),z0_at c,<- List.append_assoc,iO]
   ·rw [if_neg (by simpa using c)]
    refine ⟨_,I,?_⟩
    rw [List.take_of_length_le (l:=z0 U) (by rw [cB]; omega)]
theorem gV {T:Lb (Rat × Rat)} {x:Rat} (h:Gd T) (hx:FQ x) (hl:T.length <= 9):aI_p FU (T.map mr) (RR x) = some (RR (wt x T))/\FQ (wt x T):=by
 have hF:=aw
 have hh:=au (B:=aI_l1 FU (T.map mr) (RR x)) (fun i:Nat=>T.length - i) (fun i=>i <= T.length/\∀ e ∈ T.take i,e.1 ≠ x) (fun r=>(∃ e ∈ T,e.1 = x/\r = .inl (RR e.2)) ∨ ((∀ e ∈ T,e.1 ≠ x)/\r = .inr ())) ?_ FU 0 ⟨Nat.zero_le _,fun e he=>by cases he⟩ (by omega)
 ·obtain ⟨r,e,⟨d,hd,rfl,rfl⟩ | ⟨hn,rfl⟩⟩:=hh
  ·have hw:=gG h.up.nodup hd
   unfold aI_p
   rw [e,hw]
   exact ⟨I,(h.fq d hd).2⟩
  ·have hw:wt x T = 0:=dl fun hc=>by
    obtain ⟨d,hd,e1⟩:=List.mem_map.1 hc
    exact hn d hd e1
   unfold aI_p
   rw [e,thnr,ft,aa,hw]
   exact ⟨I,FQ0⟩
 ·rintro i J ⟨hi,hp⟩ hJ
  unfold aI_l1
  simp only
  by_cases c:i < T.length
  ·have f:=h.fq _ (List.getElem_mem c)
   rw [if_pos (by simpa using c),geE (by simpa using c),aa,List.getElem_map,show (mr T[i]).fm = RR T[i].1 from rfl,bI f.1.rf hx.rf (by omega),aa]
   by_cases c1:T[i].1 = x
   ·rw [if_pos (aZ.2 c1)]
    exact ⟨_,I,.inl ⟨T[i],List.getElem_mem c,c1,I⟩⟩
   ·rw [if_neg fun hc=>c1 (aZ.1 hc)]
    refine hJ (i + 1) ⟨c,fun e he=>?_⟩ (by omega)
    rw [List.take_succ_eq_append_getElem c] at he
    rcases List.mem_append.1 he with he | he
    ·exact hp e he
    ·rw [List.mem_singleton.1 he]; exact c1
  ·rw [if_neg (by simpa using c)]
   refine ⟨_,I,.inr ⟨?_,I⟩⟩
   rwa [List.take_of_length_le (by omega)] at hp
def iF (d:Rat):Rat:=if d < 0 then -d else d
theorem lH {d:Rat}:(RR d).fN.fc = true ↔ d < 0:=by
 rw [show (RR d).fN.fc = decide (d.num < 0) from I,decide_eq_true_iff,<- Rat.not_le,<- Rat.num_nonneg]
 omega
theorem mU {T U:Lb (Rat × Rat)}:∀ Z:Lb (Rat × Rat),bz (fun e:Rat × Rat=>iF (wt e.1 T - wt e.1 U)) Z = dsk T U (Z.map (·.1)) + dsk U T (Z.map (·.1))
 | []=>by show (0:Rat) = 0 + 0; rw [Rat.add_zero]
 | e :: l=>by
  show iF (wt e.1 T - wt e.1 U) + bz _ l = cI (wt e.1 T - wt e.1 U) + dsk T U (l.map (·.1)) + (cI (wt e.1 U - wt e.1 T) + dsk U T (l.map (·.1)))
  rw [mU l]
  unfold iF cI
  split <;> split <;> split <;> grind
theorem distRL {T U Z:Lb (Rat × Rat)} (gT:Gd T) (gU:Gd U) (lT:T.length <= 9) (lU:U.length <= 9) (hZ:∀ e ∈ Z,FQ e.1) (lZ:Z.length <= 18) :
  ao (ae_l1 FU (Z.map mr) (T.map mr) (U.map mr)) FU (0,bb 0) = some (bb (bz (fun e:Rat × Rat=>iF (wt e.1 T - wt e.1 U)) Z))/\RF 400 (bz (fun e:Rat × Rat=>iF (wt e.1 T - wt e.1 U)) Z):=by
 have hF:=aw
 have hr:∀ e ∈ Z,RF 17 (wt e.1 T - wt e.1 U):=fun e he=>(kh (gV gT (hZ e he) lT).2.rf (gV gU (hZ e he) lU).2.rf (by omega) (by omega)).2
 have hh:=dD 17 bb (B:=ae_l1 FU (Z.map mr) (T.map mr) (U.map mr)) (l:=Z) (v:=fun e:Rat × Rat=>iF (wt e.1 T - wt e.1 U)) (fun e he=>?_) (by omega) (fun J i q c hq=>?_) fun J i q c=>?_
 ·exact ⟨hh.1,hh.2.mono (by omega)⟩
 ·show RF 17 (iF _)
  unfold iF
  split
  ·exact (hr e he).neg
  ·exact hr e he
 ·have fz:=hZ _ (List.getElem_mem c)
  have hd:=hr _ (List.getElem_mem c)
  obtain ⟨a1,a2⟩:=gV gT fz lT
  obtain ⟨b1,b2⟩:=gV gU fz lU
  unfold ae_l1 bb jn
  simp only
  rw [if_pos (by simpa using c),geE (by simpa using c),aa,List.getElem_map,show (mr Z[i]).fm = RR Z[i].1 from rfl,a1,aa,b1,aa,jv a2.rf b2.rf (by omega),aa]
  rw [rrE q]
  unfold iF
  by_cases c1:wt Z[i].1 T - wt Z[i].1 U < 0
  ·rw [if_pos (lH.2 c1),if_pos c1,lg hd (by omega),aa]
   rw [rrE (-(wt Z[i].1 T - wt Z[i].1 U)),bZ hq hd.neg (by omega),aa]
  ·rw [if_neg (fun hc=>c1 (lH.1 hc)),if_neg c1]
   rw [rrE (wt Z[i].1 T - wt Z[i].1 U),bZ hq hd (by omega),aa]
 ·unfold ae_l1 bb
  simp only
  rw [if_neg (by simpa using c)]
open Classical in
theorem askTwo (x y:Lb Ta) (hx:x.length <= 9) (hy:y.length <= 9):ar_p FU [x,y] [] = some (if Okm x/\Okm y then 0 else 50):=by
 rw [lr [x,y] [] (by simp) (fun z h=>by
  rcases List.mem_cons.1 h with rfl | h
  ·omega
  ·rw [List.mem_singleton.1 h]; omega) (by simp)]
 congr 1
 have e1:Oks [x,y] ↔ Okm x/\Okm y:=⟨fun h=>⟨h x (by simp),h y (by simp)⟩,fun h z hz=>by
  rcases List.mem_cons.1 hz with rfl | hz
  ·exact h.1
  ·rw [List.mem_singleton.1 hz]; exact h.2⟩
 by_cases c:Okm x/\Okm y
 ·rw [if_pos c,if_pos (e1.2 c),if_pos (show Shs [] from fun s h=>by cases h)]
 ·rw [if_neg c,if_neg fun h=>c (e1.1 h)]
open Classical in
theorem distAny (x y:Lb Ta) (hx:x.length <= 9) (hy:y.length <= 9):∃ r:Tb × Int,aQ_p FU x y = some r/\ae_p FU x y = some r:=by
 have ha:=askTwo x y hx hy
 by_cases cx:Okm x/\Okm y
 ·rw [if_pos cx] at ha
  have r1:=cr x (by omega)
  have r2:=cr y (by omega)
  rw [decide_eq_true cx.1] at r1
  rw [decide_eq_true cx.2] at r2
  obtain ⟨⟨T,rfl,gT,sT,_⟩,⟨U,rfl,gU,sU,_⟩⟩:=cx
  rw [List.length_map] at hx hy
  refine ⟨_,distF gT.fq gU.fq hx hy ha,?_⟩
  obtain ⟨a1,a2⟩:=allR gT.fq gU.fq hx hy
  have g:=dL (T ++ nw U)
  obtain ⟨z1,z2⟩:=mh (z0 T ++ z0 U)
  have hk1:∀ x,x ∈ (cA (T ++ nw U)).map (·.1) ↔ x ∈ T.map (·.1) ∨ x ∈ U.map (·.1):=fun x=>by
   rw [g.keys,List.map_append,List.mem_append,nw_keys]
  have hk2:∀ x,x ∈ (bN (z0 T ++ z0 U)).map (·.1) ↔ x ∈ T.map (·.1) ∨ x ∈ U.map (·.1):=fun x=>by
   rw [z1.keys,List.map_append,List.mem_append,nc,nc]
  have c1:Cov T ((cA (T ++ nw U)).map (·.1)):=⟨gT.up.nodup,g.nd,fun x hx=>(hk1 x).2 (.inl hx)⟩
  have c2:Cov U ((cA (T ++ nw U)).map (·.1)):=⟨gU.up.nodup,g.nd,fun x hx=>(hk1 x).2 (.inr hx)⟩
  have d1:Cov T ((bN (z0 T ++ z0 U)).map (·.1)):=⟨gT.up.nodup,z1.nd,fun x hx=>(hk2 x).2 (.inl hx)⟩
  have d2:Cov U ((bN (z0 T ++ z0 U)).map (·.1)):=⟨gU.up.nodup,z1.nd,fun x hx=>(hk2 x).2 (.inr hx)⟩
  have hm:=dk_more c1 c2 z1.nd fun x hx=>(hk2 x).2 ((hk1 x).1 hx)
  have hsw:=dk_swap d1 d2 (sT.trans sU.symm)
  have hZ:∀ e ∈ bN (z0 T ++ z0 U),FQ e.1:=z1.fq fun e he=>by
   rcases List.mem_append.1 he with he | he
   ·obtain ⟨d,hd,rfl⟩:=List.mem_map.1 he
    exact (gT.fq d hd).1
   ·obtain ⟨d,hd,rfl⟩:=List.mem_map.1 he
    exact (gU.fq d hd).1
  have lZ:(bN (z0 T ++ z0 U)).length <= 18:=by
   have:=z1.len
   rw [List.length_append,cB,cB] at this
   omega
  obtain ⟨b1,b2⟩:=distRL gT gU hx hy hZ lZ
  have hs:=mU (T:=T) (U:=U) (bN (z0 T ++ z0 U))
  have half:un 1 2 + un 1 2 = 1:=by rw [mI,pz (by decide)]
  have hv:bz (fun e:Rat × Rat=>iF (wt e.1 T - wt e.1 U)) (bN (z0 T ++ z0 U)) * un 1 2 = dsk T U ((cA (T ++ nw U)).map (·.1)):=by
   rw [hs,<- hsw,hm]
   generalize dsk T U ((cA (T ++ nw U)).map (·.1)) = d
   have:(d + d) * un 1 2 = d * (un 1 2 + un 1 2):=by grind
   rw [this,half,Rat.mul_one]
  have hf:FQ (un 1 2):=pK (by decide) (by decide) (by decide)
  unfold ae_p
  rw [r1,aa,if_pos I,r2,aa,if_pos I,jY gT.fq (by omega),aa,jY gU.fq (by omega),aa,a1,aa,a2,aa,ft,aa]
  rw [show ((0:Nat),(RR 0).fN.fc,(RR 0).fN.fD,(RR 0).fD.fc,(RR 0).fD.fD) = (0,bb 0) from I,b1,aa]
  unfold bb
  dsimp only
  generalize bz (fun e:Rat × Rat=>iF (wt e.1 T - wt e.1 U)) (bN (z0 T ++ z0 U)) = S at hv b2 ⊢
  rw [rrE S,iu (by unfold Sm; decide) (by unfold Sm; decide) (by decide),aa]
  rw [show Rat.divInt 1 2 = un 1 2 from I,eK b2 hf.rf (by omega),aa,fO (dz b2 hf.rf (by omega)).2 (by omega),aa,hv]
 ·rw [if_neg cx] at ha
  unfold aQ_p ae_p
  rw [ha,aa,if_neg (by decide),cr x (by omega),aa]
  by_cases c1:Okm x
  ·rw [decide_eq_true c1,if_pos I,cr y (by omega),aa,decide_eq_false fun hc=>cx ⟨c1,hc⟩,if_neg (by decide)]
   exact ⟨_,I,I⟩
  ·rw [decide_eq_false c1,if_neg (by decide)]
   exact ⟨_,I,I⟩
set_option maxRecDepth 8000
theorem qe {x:Lb Ta} {B:(Nat × Lb Tb -> Oa (Lb Tb)) -> Nat × Lb Tb -> Oa (Lb Tb)} (hx:x.length <= 9)
  (hB:∀ J i xs,B J (i,xs) = if i < x.length then (x[i]?).bind fun e=>(app xs ([e.fm,e.fP]:Lb Tb)).bind fun ys=>J (i + 1,ys) else some xs) (l:Lb Tb) (hl:l.length <= 3):∃ w:Lb Tb,ao B FU (0,l) = some w/\w.length <= 30:=by
 have hF:=aw
 refine au (B:=B) (fun s=>x.length - s.1) (fun s=>s.1 <= x.length/\s.2.length <= 3 + 2 * s.1) (fun w=>w.length <= 30) ?_ FU (0,l) ⟨Nat.zero_le _,hl⟩ (by simp only; omega)
 rintro ⟨i,xs⟩ J ⟨hi,hxs⟩ hJ
 simp only at hi hxs hJ
 rw [hB]
 by_cases c:i < x.length
 ·rw [if_pos c,geE c,aa,bQ _ _ (by simp only [leC,leN]; omega),aa]
  exact hJ (i + 1,_) ⟨c,by simp only [List.length_append,leC,leN]; omega⟩ (by simp only; omega)
 ·rw [if_neg c]
  exact ⟨_,I,by omega⟩
theorem bq_loop {R:Type} {w:Lb Tb} {B:(Nat -> Oa (R ⊕ Unit)) -> Nat -> Oa (R ⊕ Unit)} (hw:w.length <= 30)
  (hB:∀ J i,B J i = if i < w.length then J (i + 1) else some (.inr ())):ao B FU 0 = some (.inr ()):=by
 have hF:=aw
 obtain ⟨r,e,rfl⟩:=au (B:=B) (fun i:Nat=>w.length - i) (fun _=>True) (fun r=>r = .inr ()) (fun i J _ hJ=>by
  rw [hB]
  by_cases c:i < w.length
  ·rw [if_pos c]
   exact hJ (i + 1) trivial (by omega)
  ·rw [if_neg c]
   exact ⟨_,I,I⟩) FU 0 trivial (by omega)
 exact e
theorem bq1 {w:Lb Tb} {x:Lb Ta} (hw:w.length <= 30) (hx:x.length <= 9):ao (ah_l1 FU w x) FU 0 = some (.inr ()):=
 bq_loop hw fun J i=>by
  unfold ah_l1
  simp only
  by_cases c:i < w.length
  ·rw [if_pos c,if_pos c,geE c,aa]
   obtain ⟨r,e1,e2⟩:=oN x w[i] hx
   obtain ⟨s,f1,f2⟩:=qc x w[i] hx
   rw [e1,aa,e2,aa,f1,aa,f2,aa]
   simp
  ·rw [if_neg c,if_neg c]
theorem gF (a0:Lb Ta) (a1 a2:Ti) (a3:Tl) (a4:Th):ah_p FU a0 a1 a2 a3 a4 = some true:=by
 have hF:=aw
 obtain ⟨o,eo,ho⟩:=ownAny a0
 obtain ⟨N,T,e1,n0,n8,dT⟩:=nB a1
 obtain ⟨M,U,e2,m0,m8,dU⟩:=nB a2
 obtain ⟨q,e3,hq⟩:=oU a4
 obtain ⟨u,e4,hu⟩:=unitD a4
 have lT:=dT.len
 have lU:=dU.len
 have pT:=(dT.dw n0 n8).len.1
 obtain ⟨r,er,hr⟩:=bendAny a3 (T.map ms) (by rw [List.length_map]; exact pT) (by rw [List.length_map]; omega)
 have h0:o.length <= 9:=by omega
 have h1:(T.map ms).length <= 9:=by rw [List.length_map]; omega
 have h2:(U.map ms).length <= 9:=by rw [List.length_map]; omega
 have l3:([a3.fA,Sg q,Sg u]:Lb Tb).length <= 3:=by simp only [leC,leN]; decide
 have ha:cC_p FU a0 a1 a3 = some (o,T.map ms,r):=by
  unfold cC_p
  rw [eo,aa,e1,aa,aa,er,aa]
 have hall:∀ z ∈ [o,T.map ms,r],z.length <= 9:=fun z hz=>by
  simp only [List.mem_cons,List.not_mem_nil,or_false] at hz
  rcases hz with rfl | rfl | rfl
  ·exact h0
  ·exact h1
  ·exact hr
 obtain ⟨b,e,rfl⟩:=au (B:=ah_l3 FU (o,T.map ms,r) a2 a4 a3) (fun i:Nat=>3 - i) (fun _=>True) (fun b=>b = .inr ()) (fun i J _ hJ=>by
  unfold ah_l3
  simp only
  by_cases c:i < 3
  ·have cl:i < [o,T.map ms,r].length:=c
   rw [if_pos c,geE cl,aa]
   have hz:=hall _ (List.getElem_mem cl)
   generalize [o,T.map ms,r][i] = z at hz ⊢
   refine ⟨.inr (),?_,I⟩
   obtain ⟨r,m1,m2⟩:=meanAny z hz
   obtain ⟨s,f1,f2⟩:=varAny z hz
   obtain ⟨t,g1,g2⟩:=distAny z _ hz h2
   rw [m1,aa,m2,aa,f1,aa,f2,aa,e2,aa,g1,aa,aa,g2,aa]
   simp only [jn,if_true,decide_true,Bool.not_true,Bool.false_eq_true,if_false]
   rw [e3,aa,e4,aa]
   obtain ⟨w0,x0,y0⟩:=qe (B:=ah_l2 FU z) hz (fun J i xs=>rfl) _ l3
   rw [x0,aa,bq1 y0 hz,thnr]
   obtain ⟨b,e,rfl⟩:=hJ (i + 1) trivial (by omega)
   exact e
  ·rw [if_neg c]
   exact ⟨_,I,I⟩) FU 0 trivial (by omega)
 unfold ah_p
 rw [pZ,aa,if_pos I,ha,aa,e,thnr]
theorem gy (a0:Lb Ta) (a1 a2:Ti) (a3:Tl) (a4:Th):∃ n,ah_p n a0 a1 a2 a3 a4 = some true:=⟨FU,gF a0 a1 a2 a3 a4⟩
end Go.Proofs.YtkommhmbkbhmlaaGreat
