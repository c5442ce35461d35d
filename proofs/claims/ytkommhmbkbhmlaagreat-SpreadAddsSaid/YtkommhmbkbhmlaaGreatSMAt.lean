/- Plain law: the program's distance is the distance. No program in sight but the printed functions. -/
import Derived.Test.YtkommhmbkbhmlaaGreatSMAk
namespace Go.Proofs.YtkommhmbkbhmlaaGreat
open Go
set_option maxRecDepth 8000
def fE (q:Rat):Bool × List UInt64 × Bool × List UInt64:=((Rt q).fj.fe,(Rt q).fj.fk,(Rt q).fh.fe,(Rt q).fh.fk)
theorem asked2 {T U:List (Rat × Rat)} (h:Ds T) (k:Ds U):al_p FU [T.map ms,U.map ms] [] = some 0:=by
 have hF:=aG
 have e3:ao (al_l3 FU [T.map ms,U.map ms] []) FU 0 = some (.inr ()):=by
  have s0:∀ J,al_l3 FU [T.map ms,U.map ms] [] J 0 = J 1:=fun J=>by
   show ((bK_p FU (T.map ms)).bind _) = _
   unfold bK_p
   rw [eG h]; rfl
  have s1:∀ J,al_l3 FU [T.map ms,U.map ms] [] J 1 = J 2:=fun J=>by
   show ((bK_p FU (U.map ms)).bind _) = _
   unfold bK_p
   rw [eG k]; rfl
  obtain ⟨m,hm⟩:∃ m,FU = m + 3:=⟨FU - 3,by omega⟩
  have e:ao (al_l3 FU [T.map ms,U.map ms] []) (m + 3) 0 = some (.inr ()):=by
   rw [ck,s0,ck,s1,ck]; rfl
  rw [<- hm] at e
  exact e
 have e2:ao (al_l2 FU []) FU 0 = some (.inr ()):=by
  rw [nS (by omega)]; rfl
 unfold al_p
 rw [e3]
 show (if (0:Int) <= -1 then some (50:Int) else _) = _
 rw [if_neg (by decide),e2]; rfl
end Go.Proofs.YtkommhmbkbhmlaaGreat
namespace Go.Proofs.YtkommhmbkbhmlaaGreat
open Go
def fS (W:List (Rat × Rat)):List (Rat × Rat):=W.foldl (fun T e=>bw e.1 e.2 T) []
theorem gU (W:List (Rat × Rat)):Gat W (fS W)/\Up (fS W):=by
 suffices ∀ (l P D:List (Rat × Rat)),Gat P D -> Up D -> Gat (P ++ l) (l.foldl (fun T e=>bw e.1 e.2 T) D)/\Up (l.foldl (fun T e=>bw e.1 e.2 T) D) from this W [] [] Gat.nil List.Pairwise.nil
 intro l
 induction l with
 | nil=>intro P D h u; rw [List.append_nil]; exact ⟨h,u⟩
 | cons e l ih=>
  intro P D h u
  have:=ih (P ++ [e]) _ (h.put u e.1 e.2) (gg e.1 e.2 u)
  rwa [List.append_assoc] at this
theorem Gat.sW {P D:List (Rat × Rat)} (h:Gat P D):Go.Proofs.YtkommhmbkbhmlaaGreat.sW D = Go.Proofs.YtkommhmbkbhmlaaGreat.sW P:=by
 have h1:=mW h.nd
 rw [<- h1,show (fun x=>wt x D) = fun x=>wt x P from funext h.wts]
 suffices ∀ (P:List (Rat × Rat)) (K:List Rat),K.Nodup -> (∀ x ∈ P.map (·.1),x ∈ K) -> bJ (fun x=>wt x P) K = Go.Proofs.YtkommhmbkbhmlaaGreat.sW P from this P _ h.nd fun x hx=>(h.keys x).2 hx
 intro P
 induction P with
 | nil=>exact fun K _ _=>fF fun x _=>rfl
 | cons e l ih=>
  intro K hK hs
  have e1:(fun x=>wt x (e :: l)) = fun x=>(if e.1 = x then e.2 else 0) + wt x l:=rfl
  rw [e1,kJ,ih K hK fun x hx=>hs x (List.mem_cons_of_mem _ hx)]
  have h2:=nB (f:=fun x=>if e.1 = x then e.2 else 0) (K:=[e.1]) (L:=K) (by simp) hK (fun x hx=>by rw [List.mem_singleton.1 hx]; exact hs _ (List.mem_cons_self ..)) fun x _ hx=>if_neg fun hc=>hx (by rw [hc]; exact List.mem_singleton.2 rfl)
  rw [h2]
  show (if e.1 = e.1 then e.2 else 0) + 0 + _ = e.2 + _
  rw [if_pos rfl]; grind
structure Wd (N:Nat) (W:List (Rat × Rat)):Prop where
 pos:0 < N
 le:N <= 1000000
 key:∀ e ∈ W,Bt 40 40 e.1
 wts:∀ e ∈ W,∃ k,0 < k/\k <= N/\e.2 = un k N
 sum:sW W = 1
 len:W.length <= 400
theorem Wd.part {N:Nat} {W A B:List (Rat × Rat)} (h:Wd N W) (hp:(A ++ B).Perm W):∃ a,a <= N/\sW A = un a N/\(A ≠ [] -> 0 < a):=by
 obtain ⟨a,a1,a2⟩:=ku (N:=N) (A:=A) fun e he=>h.wts e (hp.mem_iff.1 (List.mem_append_left _ he))
 obtain ⟨b,b1,_⟩:=ku (N:=N) (A:=B) fun e he=>h.wts e (hp.mem_iff.1 (List.mem_append_right _ he))
 have hs:sW A + sW B = un N N:=by rw [<- gP,mO hp,h.sum,im h.pos]
 have h2:un (a + b) N = un N N:=by rw [<- hs,a1,b1,gK]
 have h1:a + b <= N:=(iM h.pos).1 (h2 ▸ Rat.le_refl)
 exact ⟨a,by omega,a1,a2⟩
theorem Wd.atw {N:Nat} {W:List (Rat × Rat)} (h:Wd N W) (x:Rat) (i:Nat):∃ a,a <= N/\wt x (W.take i) = un a N/\(x ∈ (W.take i).map (·.1) -> 0 < a):=by
 obtain ⟨a,a1,a2,a3⟩:=h.part (ik (fun e=>decide (e.1 = x)) W i)
 refine ⟨a,a1,by rw [fJ]; exact a2,fun hx=>a3 fun hc=>?_⟩
 obtain ⟨e,he,h1⟩:=List.mem_map.1 hx
 have h2:e ∈ (W.take i).filter fun e=>decide (e.1 = x):=List.mem_filter.2 ⟨he,decide_eq_true h1⟩
 rw [hc] at h2
 cases h2
theorem Wd.gath_fq {N:Nat} {W:List (Rat × Rat)} (h:Wd N W) (i:Nat):∀ e ∈ bY (W.take i),FQ e.1/\FQ e.2:=fun e he=>by
 obtain ⟨h1,h2⟩:=((dL (W.take i)).mem e).1 he
 refine ⟨?_,?_⟩
 ·obtain ⟨d,hd,e1⟩:=List.mem_map.1 h1
  rw [<- e1]
  exact (h.key d (List.mem_of_mem_take hd)).k
 ·obtain ⟨a,a1,a2,_⟩:=h.atw e.1 i
  rw [h2,a2]
  exact iJ h.pos h.le (Nat.le_trans a1 h.le)
theorem Wd.dw {N:Nat} {W Z:List (Rat × Rat)} (h:Wd N W) (g:Gat W Z) (u:Up Z):Dw N Z:=by
 refine ⟨u,fun e he=>?_,fun e he=>?_,by rw [g.sW,h.sum,im h.pos],Nat.le_trans g.len h.len⟩
 ·obtain ⟨h1,_⟩:=(g.mem e).1 he
  obtain ⟨d,hd,e1⟩:=List.mem_map.1 h1
  rw [<- e1]; exact h.key d hd
 ·obtain ⟨h1,h2⟩:=(g.mem e).1 he
  obtain ⟨a,a1,a2,a3⟩:=h.atw e.1 W.length
  rw [List.take_length] at a2 a3
  exact ⟨a,a3 h1,a1,by rw [h2,a2]⟩
theorem Wd.ds {N:Nat} {W Z:List (Rat × Rat)} (h:Wd N W) (g:Gat W Z) (u:Up Z):Ds Z:=⟨N,h.pos,h.le,h.dw g u⟩
theorem Dn.toDw {N:Nat} {T:List (Rat × Rat)} (h:Dn N N T) (hN:N <= 8):Dw N T:=
 ⟨h.up,fun e he=>(h.key e he).bt.mono (by decide) (by decide),h.wts,h.sum,by have:=h.len; omega⟩
theorem un_mm (a b c d:Nat):un a b * un c d = un (a * c) (b * d):=by
 unfold un
 rw [Rat.divInt_mul_divInt,Int.natCast_mul,Int.natCast_mul]
theorem Wd.pre {N:Nat} {W A B:List (Rat × Rat)} (h:Wd N W) (e:W = A ++ B):∀ d ∈ bY A,FQ d.1/\FQ d.2:=by
 have:=h.gath_fq A.length
 rwa [e,List.take_left] at this
theorem Wd.fq {N:Nat} {W:List (Rat × Rat)} (h:Wd N W):∀ e ∈ W,FQ e.1/\FQ e.2:=fun e he=>by
 obtain ⟨k,k1,k2,k3⟩:=h.wts e he
 exact ⟨(h.key e he).k,by rw [k3]; exact iJ h.pos h.le (Nat.le_trans k2 h.le)⟩
end Go.Proofs.YtkommhmbkbhmlaaGreat
namespace Go.Proofs.YtkommhmbkbhmlaaGreat
open Go
end Go.Proofs.YtkommhmbkbhmlaaGreat
namespace Go.Proofs.YtkommhmbkbhmlaaGreat
open Go
set_option maxRecDepth 8000
theorem mZ (A:List (Rat × Rat)) (e:Rat × Rat):bY (A ++ [e]) = ix (bY A) e:=by
 unfold bY
 rw [List.foldl_append]; rfl
theorem ms_inj {a b:Rat × Rat} (ha:FQ a.1/\FQ a.2) (hb:FQ b.1/\FQ b.2):ms a = ms b ↔ a = b:=by
 refine ⟨fun h=>?_,fun h=>by rw [h]⟩
 have h1:Sg a.1 = Sg b.1:=congrArg Ta.fo h
 have h2:Sg a.2 = Sg b.2:=congrArg Ta.fP h
 exact Prod.ext (jt ha.1 hb.1 h1) (jt ha.2 hb.2 h2)
theorem sameD {T U:List (Rat × Rat)} (hT:∀ e ∈ T,FQ e.1/\FQ e.2) (hU:∀ e ∈ U,FQ e.1/\FQ e.2) (hl:T.length < 1000):bR_p FU (T.map ms) (U.map ms) = some (decide (T = U)):=by
 have hF:=aG
 unfold bR_p
 by_cases h0:T.length = U.length
 ·have hh:=az (B:=bR_l1 FU (T.map ms) (U.map ms)) (fun i:Nat=>T.length - i) (fun i=>i <= T.length/\T.take i = U.take i) (fun r=>thn (some r) (fun _=>some true) = some (decide (T = U))) ?_ FU 0 ⟨Nat.zero_le _,rfl⟩ (by omega)
  ·obtain ⟨r,e,e2⟩:=hh
   rw [if_pos (by simpa using h0),e,e2]
  ·rintro i J ⟨hi,ht⟩ hJ
   unfold bR_l1 cL_p
   simp only
   by_cases c:i < T.length
   ·have cu:i < U.length:=by omega
    rw [if_pos (by simpa using c),geE (by simpa using c),ab,geE (by simpa using cu),ab,List.getElem_map,List.getElem_map,ab]
    by_cases ce:T[i] = U[i]
    ·rw [if_pos (by rw [ce]; exact decide_eq_true rfl)]
     exact hJ (i + 1) ⟨c,by rw [List.take_succ_eq_append_getElem c,List.take_succ_eq_append_getElem cu,ht,ce]⟩ (by omega)
    ·rw [if_neg (by rw [decide_eq_true_iff,ms_inj (hT _ (List.getElem_mem c)) (hU _ (List.getElem_mem cu))]; exact ce)]
     refine ⟨_,rfl,?_⟩
     rw [decide_eq_false fun hc=>ce (by simp only [hc])]; rfl
   ·rw [if_neg (by simpa using c)]
    refine ⟨_,rfl,?_⟩
    rw [List.take_of_length_le (by omega),List.take_of_length_le (by omega)] at ht
    rw [decide_eq_true ht]; rfl
 ·rw [if_neg (by simpa using h0),decide_eq_false fun hc=>h0 (by rw [hc])]
end Go.Proofs.YtkommhmbkbhmlaaGreat
namespace Go.Proofs.YtkommhmbkbhmlaaGreat
open Go
def wf (f:Rat -> Rat) (W:List (Rat × Rat)):List (Rat × Rat):=W.map fun e=>(e.1,e.2 * f e.1)
theorem oC (f:Rat -> Rat) (x:Rat):∀ W,wt x (wf f W) = wt x W * f x
 | []=>by show (0:Rat) = 0 * f x; grind
 | e :: l=>by
  show (if e.1 = x then e.2 * f e.1 else 0) + wt x (wf f l) = ((if e.1 = x then e.2 else 0) + wt x l) * f x
  rw [oC f x l]
  by_cases c:e.1 = x
  ·rw [if_pos c,if_pos c,c]; grind
  ·rw [if_neg c,if_neg c]; grind
theorem jL (f:Rat -> Rat) (W:List (Rat × Rat)):(wf f W).map (·.1) = W.map (·.1):=by
 unfold wf
 rw [List.map_map]; rfl
def ex (f:Rat -> Rat) (W:List (Rat × Rat)):Rat:=sW (wf f W)
theorem ex_nil (f:Rat -> Rat):ex f [] = 0:=rfl
theorem cK (f:Rat -> Rat) (e:Rat × Rat) (l:List (Rat × Rat)):ex f (e :: l) = e.2 * f e.1 + ex f l:=rfl
theorem pg (f:Rat -> Rat) (A B:List (Rat × Rat)):ex f (A ++ B) = ex f A + ex f B:=by
 unfold ex wf
 rw [List.map_append,gP]
theorem ph {W Z:List (Rat × Rat)} (h:Gat W Z) (f:Rat -> Rat):ex f Z = ex f W:=by
 refine Gat.sW ⟨by rw [jL]; exact h.nd,fun x=>?_,fun x=>?_,?_⟩
 ·rw [jL,jL]; exact h.keys x
 ·rw [oC,oC,h.wts]
 ·unfold wf
  rw [List.length_map,List.length_map]; exact h.len
theorem dJ (f g:Rat -> Rat):∀ W,ex (fun x=>f x + g x) W = ex f W + ex g W
 | []=>by show (0:Rat) = 0 + 0; grind
 | e :: l=>by
  rw [cK,cK,cK,dJ f g l]
  grind
theorem jF (c:Rat) (f:Rat -> Rat):∀ W,ex (fun x=>c * f x) W = c * ex f W
 | []=>by show (0:Rat) = c * 0; grind
 | e :: l=>by
  rw [cK,cK,jF c f l]
  grind
theorem cN (c:Rat):∀ W,ex (fun _=>c) W = c * sW W
 | []=>by show (0:Rat) = c * 0; grind
 | e :: l=>by
  rw [cK,cN c l]
  show _ = c * (e.2 + sW l)
  grind
theorem kE (f g:Rat -> Rat):∀ T,ex f (mv g T) = ex (fun x=>f (g x)) T
 | []=>rfl
 | e :: l=>by
  show e.2 * f (g e.1) + ex f (mv g l) = e.2 * f (g e.1) + ex (fun x=>f (g x)) l
  rw [kE f g l]
def row (e:Rat × Rat) (U:List (Rat × Rat)):List (Rat × Rat):=U.map fun y=>(e.1 + y.1,e.2 * y.2)
def prs (T U:List (Rat × Rat)):List (Rat × Rat):=T.flatMap fun e=>row e U
theorem gL (e:Rat × Rat) (l U:List (Rat × Rat)):prs (e :: l) U = row e U ++ prs l U:=rfl
theorem nM (f:Rat -> Rat) (e:Rat × Rat):∀ U,ex f (row e U) = e.2 * ex (fun y=>f (e.1 + y)) U
 | []=>by show (0:Rat) = e.2 * 0; grind
 | d :: U=>by
  show e.2 * d.2 * f (e.1 + d.1) + ex f (row e U) = e.2 * (d.2 * f (e.1 + d.1) + ex (fun y=>f (e.1 + y)) U)
  rw [nM f e U]
  grind
theorem jx (f:Rat -> Rat) (U:List (Rat × Rat)):∀ T,ex f (prs T U) = ex (fun x=>ex (fun y=>f (x + y)) U) T
 | []=>rfl
 | e :: l=>by rw [gL,pg,nM,jx f U l,cK]
def ay (T:List (Rat × Rat)):Rat:=ex (fun x=>x) T
def cb (T:List (Rat × Rat)):Rat:=ex (fun x=>(x - ay T) * (x - ay T)) T
theorem eW {W Z:List (Rat × Rat)} (h:Gat W Z):ay Z = ay W:=ph h _
theorem ic {W Z:List (Rat × Rat)} (h:Gat W Z):cb Z = cb W:=by
 unfold cb
 rw [eW h,ph h]
theorem ex_off {T:List (Rat × Rat)} (h:sW T = 1):ex (fun x=>x - ay T) T = 0:=by
 have e:(fun x=>x - ay T) = fun x=>x + -ay T:=funext fun x=>Rat.sub_eq_add_neg ..
 rw [e,dJ (fun x=>x),cN,h]
 show ay T + -ay T * 1 = 0
 grind
theorem jW {T U:List (Rat × Rat)} (h:sW T = 1) (k:sW U = 1):ay (prs T U) = ay T + ay U:=by
 unfold ay
 rw [jx]
 have e:(fun x=>ex (fun y=>x + y) U) = fun x=>x + ay U:=funext fun x=>by
  rw [dJ (fun _=>x) (fun y=>y),cN,k]
  show x * 1 + ay U = x + ay U
  grind
 rw [e,dJ (fun x=>x),cN,h]
 show ay T + ay U * 1 = ay T + ay U
 grind
theorem nH {T U:List (Rat × Rat)} (h:sW T = 1) (k:sW U = 1):cb (prs T U) = cb T + cb U:=by
 have hm:=jW h k
 have ho:=ex_off k
 unfold cb
 rw [jx,hm]
 have e:(fun x=>ex (fun y=>(x + y - (ay T + ay U)) * (x + y - (ay T + ay U))) U) = fun x=>(x - ay T) * (x - ay T) + cb U:=funext fun x=>by
  have e2:(fun y=>(x + y - (ay T + ay U)) * (x + y - (ay T + ay U))) = fun y=>(((x - ay T) * (x - ay T)) + (2 * (x - ay T)) * (y - ay U)) + (y - ay U) * (y - ay U):=funext fun y=>by grind
  rw [e2,dJ (fun y=>((x - ay T) * (x - ay T)) + (2 * (x - ay T)) * (y - ay U)),dJ (fun _=>(x - ay T) * (x - ay T)),cN,jF,ho,k]
  show _ + cb U = _ + cb U
  grind
 rw [e,dJ (fun x=>(x - ay T) * (x - ay T)),cN,h]
 show cb T + cb U * 1 = cb T + cb U
 grind
theorem mu {T:List (Rat × Rat)} (h:sW T = 1) (c:Rat):ay (mv (fun x=>c + x) T) = ay T + c:=by
 unfold ay
 rw [kE,dJ (fun _=>c) (fun x=>x),cN,h]
 grind
theorem vari_sh {T:List (Rat × Rat)} (h:sW T = 1) (c:Rat):cb (mv (fun x=>c + x) T) = cb T:=by
 unfold cb
 rw [mu h,kE]
 exact congrArg (fun f=>ex f T) (funext fun x=>by grind)
theorem mD (T:List (Rat × Rat)) (c:Rat):ay (mv (fun x=>c * x) T) = ay T * c:=by
 unfold ay
 rw [kE,jF c (fun x=>x)]
 grind
theorem vari_sc (T:List (Rat × Rat)) (c:Rat):cb (mv (fun x=>c * x) T) = cb T * (c * c):=by
 unfold cb
 rw [mD,kE,show (fun x=>(c * x - ay T * c) * (c * x - ay T * c)) = fun x=>(c * c) * ((x - ay T) * (x - ay T)) from funext fun x=>by grind,jF (c * c)]
 grind
theorem prs_sW {T U:List (Rat × Rat)} (h:sW T = 1) (k:sW U = 1):sW (prs T U) = 1:=by
 have h1:=jx (fun _=>1) U T
 rw [cN,cN,cN,k,h] at h1
 grind
def Cd (A D:Nat) (q:Rat):Prop:=∃ z:Int,q = Rat.divInt z D/\z.natAbs <= A
theorem Cd.add {A B D:Nat} {p q:Rat} (h0:0 < D) (h:Cd A D p) (k:Cd B D q):Cd (A + B) D (p + q):=by
 obtain ⟨x,rfl,hx⟩:=h
 obtain ⟨y,rfl,hy⟩:=k
 refine ⟨x + y,?_,by omega⟩
 rw [Rat.divInt_add_divInt _ _ (by omega) (by omega),<- Int.add_mul,Rat.divInt_mul_right (by omega)]
theorem Cd.neg {A D:Nat} {p:Rat} (h:Cd A D p):Cd A D (-p):=by
 obtain ⟨x,rfl,hx⟩:=h
 exact ⟨-x,by rw [Rat.neg_divInt],by omega⟩
theorem Cd.mul {A B D E:Nat} {p q:Rat} (h:Cd A D p) (k:Cd B E q):Cd (A * B) (D * E) (p * q):=by
 obtain ⟨x,rfl,hx⟩:=h
 obtain ⟨y,rfl,hy⟩:=k
 refine ⟨x * y,?_,by rw [Int.natAbs_mul]; exact Nat.mul_le_mul hx hy⟩
 rw [Rat.divInt_mul_divInt,Int.natCast_mul]
theorem Cd.up {A D:Nat} {p:Rat} (h:Cd A D p) {E:Nat} (hE:0 < E):Cd (E * A) (E * D) p:=by
 obtain ⟨x,rfl,hx⟩:=h
 refine ⟨E * x,?_,by rw [Int.natAbs_mul,Int.natAbs_natCast]; exact Nat.mul_le_mul_left _ hx⟩
 rw [Int.natCast_mul,Rat.divInt_mul_left (by omega)]
theorem Cd.mono {A B D:Nat} {p:Rat} (h:Cd A D p) (hl:A <= B):Cd B D p:=by
 obtain ⟨x,rfl,hx⟩:=h
 exact ⟨x,rfl,by omega⟩
theorem Cd.bt {A D i j:Nat} {p:Rat} (h:Cd A D p) (h0:0 < D) (hA:A < 2 ^ i) (hD:D < 2 ^ j):Bt i j p:=by
 obtain ⟨x,rfl,hx⟩:=h
 exact Bt.of (by omega) (by omega) (by rw [Int.natAbs_natCast]; exact hD)
theorem oL {f:Rat -> Rat} {A D N:Nat} (h0:0 < D) (hN:0 < N):∀ {W:List (Rat × Rat)},(∀ e ∈ W,Cd A D (f e.1)) -> (∀ e ∈ W,∃ k,0 < k/\k <= N/\e.2 = un k N) -> Cd (W.length * (N * A)) (N * D) (ex f W)
 | [],_,_=>⟨0,by rw [ex_nil,Rat.divInt_eq_div,Rat.div_def]; exact (Rat.zero_mul _).symm,by simp⟩
 | e :: l,h,k=>by
  obtain ⟨m,m0,m1,m2⟩:=k e (List.mem_cons_self ..)
  have h1:Cd N N e.2:=⟨m,m2,by omega⟩
  have h2:=(h1.mul (h e (List.mem_cons_self ..))).add (Nat.mul_pos hN h0) (oL h0 hN (fun d hd=>h d (List.mem_cons_of_mem _ hd)) fun d hd=>k d (List.mem_cons_of_mem _ hd))
  rw [cK]
  refine h2.mono ?_
  rw [leC,Nat.add_mul,Nat.one_mul]; omega
def LC:Nat:=5354228880
theorem lc_div:∀ b:Nat,b < 25 -> b = 0 ∨ LC % b = 0:=by decide
theorem Sh1.cd {q:Rat} (h:Sh1 q):Cd (1000 * LC) LC q:=by
 obtain ⟨a,b,rfl,h1,h2,h3⟩:=h
 obtain ⟨n,rfl⟩:∃ n:Nat,b = n:=⟨b.toNat,by omega⟩
 rcases lc_div n (by omega) with h4 | h4
 ·omega
 obtain ⟨c,hc⟩:=Nat.dvd_of_mod_eq_zero h4
 have hc0:0 < c:=Nat.pos_of_ne_zero fun h0=>by rw [h0,Nat.mul_zero] at hc; exact absurd hc (by decide)
 refine ⟨a * c,?_,?_⟩
 ·rw [hc,Int.natCast_mul,Rat.divInt_mul_right (by omega)]
 ·rw [Int.natAbs_mul,Int.natAbs_natCast]
  exact Nat.mul_le_mul (by omega) (by rw [hc]; exact Nat.le_mul_of_pos_left _ (by omega))
end Go.Proofs.YtkommhmbkbhmlaaGreat
namespace Go.Proofs.YtkommhmbkbhmlaaGreat
open Go
set_option maxRecDepth 8000
structure Km (N A D:Nat) (T:List (Rat × Rat)):Prop where
 d:Dw N T
 n0:0 < N
 n1:N <= 64
 len:T.length <= 64
 key:∀ e ∈ T,Cd A D e.1
 d0:0 < D
 a1:A < 2 ^ 90
 d1:D < 2 ^ 70
theorem Km.ds {N A D:Nat} {T:List (Rat × Rat)} (h:Km N A D T):Ds T:=⟨N,h.n0,by have:=h.n1; omega,h.d⟩
theorem Km.exb {N A D B E i j:Nat} {T:List (Rat × Rat)} (h:Km N A D T) {f:Rat -> Rat} (hf:∀ e ∈ T,Cd B E (f e.1)) (h0:0 < E) (hB:64 * (64 * B) < 2 ^ i) (hE:64 * E < 2 ^ j) (n:Nat):Bt i j (ex f (T.take n)):=by
 have hl:=h.len
 have hn:=h.n1
 have h1:=oL (f:=f) (W:=T.take n) h0 h.n0 (fun e he=>hf e (List.mem_of_mem_take he)) fun e he=>h.d.wts e (List.mem_of_mem_take he)
 refine h1.bt (Nat.mul_pos h.n0 h0) (Nat.lt_of_le_of_lt (Nat.mul_le_mul ?_ (Nat.mul_le_mul_right B hn)) hB) (Nat.lt_of_le_of_lt (Nat.mul_le_mul_right E hn) hE)
 rw [List.length_take]; omega
theorem Km.one {N A D B E i j:Nat} {T:List (Rat × Rat)} (h:Km N A D T) {f:Rat -> Rat} {e:Rat × Rat} (he:e ∈ T) (hf:Cd B E (f e.1)) (h0:0 < E) (hB:64 * B < 2 ^ i) (hE:64 * E < 2 ^ j):Bt i j (e.2 * f e.1):=by
 have hn:=h.n1
 obtain ⟨k,k1,k2,k3⟩:=h.d.wts e he
 have h1:Cd N N e.2:=⟨k,k3,by omega⟩
 exact (h1.mul hf).bt (Nat.mul_pos h.n0 h0) (Nat.lt_of_le_of_lt (Nat.mul_le_mul_right B hn) hB) (Nat.lt_of_le_of_lt (Nat.mul_le_mul_right E hn) hE)
theorem mP (f:Rat -> Rat) {T:List (Rat × Rat)} {i:Nat} (h:i < T.length):ex f (T.take (i + 1)) = ex f (T.take i) + T[i].2 * f T[i].1:=by
 rw [List.take_succ_eq_append_getElem h,pg]
 show _ + (T[i].2 * f T[i].1 + 0) = _
 rw [Rat.add_zero]
theorem Km.mb {N A D:Nat} {T:List (Rat × Rat)} (h:Km N A D T) (n:Nat):Bt 102 76 (ex (fun x=>x) (T.take n)):=
 h.exb (fun e he=>h.key e he) h.d0 (by have:=h.a1; omega) (by have:=h.d1; omega) n
theorem minusT {a b:Rat} (ha:FQ a) (hb:FQ b):bZ_p FU (Rt a) (Rt b) = some (Rt (a - b)):=by
 have hF:=aG
 have hn:RF 8 (-b):=⟨by rw [Rat.neg_num]; exact hb.rf.1.neg,by rw [Rat.neg_den]; exact hb.rf.2⟩
 unfold bZ_p
 rw [turnedG FU 8 b hb.rf (by decide) hF,ab,(gb FU 8 _ _ ha.rf hn (by decide) hF).1,ab,Rat.sub_eq_add_neg]
theorem meanL {N A D:Nat} {T:List (Rat × Rat)} (h:Km N A D T):ao (aP_l1 FU (T.map ms)) FU (0,fE 0) = some (fE (ay T)):=by
 have hF:=aG
 have hl:=h.len
 have hh:=az (B:=aP_l1 FU (T.map ms)) (fun s=>T.length - s.1) (fun s=>∃ i,i <= T.length/\s = (i,fE (ex (fun x=>x) (T.take i)))) (fun r=>r = fE (ay T)) ?_ FU (0,fE 0) ⟨0,Nat.zero_le _,rfl⟩ (by simp only; omega)
 ·obtain ⟨r,e,rfl⟩:=hh
  exact e
 ·rintro s J ⟨i,hi,rfl⟩ hJ
  unfold aP_l1 cq_p fE
  simp only
  by_cases c:i < T.length
  ·have f:=h.ds.fq _ (List.getElem_mem c)
   have f1:=(h.mb i).fq (by decide) (by decide)
   have f2:FQ (T[i].2 * T[i].1):=(h.one (i:=100) (j:=76) (f:=fun x=>x) (List.getElem_mem c) (h.key _ (List.getElem_mem c)) h.d0 (by have:=h.a1; omega) (by have:=h.d1; omega)).fq (by decide) (by decide)
   rw [if_pos (by simpa using c),geE (by simpa using c),ab,List.getElem_map,pG f.2,ab,show (ms T[i]).fo = Sg T[i].1 from rfl,aZ FU _ f.1 (by omega),ab,ab,(fC FU 8 _ _ f.2.rf f.1.rf (by decide) hF).1,ab]
   rw [show (⟨⟨(Rt (ex (fun x=>x) (T.take i))).fj.fe,(Rt (ex (fun x=>x) (T.take i))).fj.fk⟩,⟨(Rt (ex (fun x=>x) (T.take i))).fh.fe,(Rt (ex (fun x=>x) (T.take i))).fh.fk⟩⟩:Tc) = Rt (ex (fun x=>x) (T.take i)) from rfl,(gb FU 8 _ _ f1.rf f2.rf (by decide) hF).1,ab,<- mP (fun x=>x) c]
   exact hJ _ ⟨i + 1,c,rfl⟩ (by simp only; omega)
  ·rw [if_neg (by simpa using c)]
   refine ⟨_,rfl,?_⟩
   rw [List.take_of_length_le (by omega)]; rfl
theorem iY {N A D:Nat} {T:List (Rat × Rat)} (h:Km N A D T):aP_p FU (T.map ms) = some (Sg (ay T),0)/\Bt 102 76 (ay T):=by
 have hb:Bt 102 76 (ay T):=by
  have hb:=h.mb T.length
  rw [List.take_length] at hb
  exact hb
 refine ⟨?_,hb⟩
 have hl:=meanL h
 unfold aP_p
 rw [eG h.ds,ab,if_pos rfl,oO,ab]
 show Option.bind (ao (aP_l1 FU (T.map ms)) FU (0,fE 0)) _ = _
 rw [hl,ab]
 show ((ac_p FU (Rt (ay T))).bind _) = _
 rw [gY (hb.fq (by decide) (by decide)),ab]
theorem Km.off {N A D:Nat} {T:List (Rat × Rat)} (h:Km N A D T) {e:Rat × Rat} (he:e ∈ T):Cd (5000 * A) (N * D) (e.1 - ay T):=by
 have hl:=h.len
 have hn:=h.n1
 have h1:=oL (f:=fun x=>x) h.d0 h.n0 h.key h.d.wts
 have h2:=((h.key e he).up h.n0).add (Nat.mul_pos h.n0 h.d0) (Cd.neg h1)
 rw [Rat.sub_eq_add_neg]
 refine h2.mono ?_
 have h3:N * A <= 64 * A:=Nat.mul_le_mul_right A hn
 have h4:T.length * (N * A) <= 64 * (64 * A):=Nat.mul_le_mul hl h3
 omega
theorem sq_lt {a i:Nat} (h:a < 2 ^ i):a * a < 2 ^ (i + i):=by
 rw [Nat.pow_add]; exact Nat.mul_lt_mul'' h h
theorem Km.vb {N A D:Nat} {T:List (Rat × Rat)} (h:Km N A D T):(∀ n,Bt 250 200 (ex (fun x=>(x - ay T) * (x - ay T)) (T.take n)))/\∀ e ∈ T,FQ (e.1 - ay T)/\FQ ((e.1 - ay T) * (e.1 - ay T))/\FQ (e.2 * ((e.1 - ay T) * (e.1 - ay T))):=by
 have hn:=h.n1
 have a1:=h.a1
 have d1:=h.d1
 have hD:N * D <= 64 * D:=Nat.mul_le_mul_right D hn
 have hp:0 < N * D:=Nat.mul_pos h.n0 h.d0
 have b1:5000 * A < 2 ^ 103:=by omega
 have b2:N * D < 2 ^ 76:=by omega
 have b3:=sq_lt b1
 have b4:=sq_lt b2
 have hf:∀ e ∈ T,Cd (5000 * A * (5000 * A)) (N * D * (N * D)) ((e.1 - ay T) * (e.1 - ay T)):=fun e he=>(h.off he).mul (h.off he)
 refine ⟨fun n=>h.exb (f:=fun x=>(x - ay T) * (x - ay T)) hf (Nat.mul_pos hp hp) ?_ ?_ n,fun e he=>⟨((h.off he).bt hp b1 b2).fq (by decide) (by decide),((hf e he).bt (Nat.mul_pos hp hp) b3 b4).fq (by decide) (by decide),(h.one (i:=250) (j:=200) (f:=fun x=>(x - ay T) * (x - ay T)) he (hf e he) (Nat.mul_pos hp hp) ?_ ?_).fq (by decide) (by decide)⟩⟩
 ·have:(2:Nat) ^ (103 + 103) * 4096 <= 2 ^ 250:=by decide
  omega
 ·have:(2:Nat) ^ (76 + 76) * 64 <= 2 ^ 200:=by decide
  omega
 ·have:(2:Nat) ^ (103 + 103) * 4096 <= 2 ^ 250:=by decide
  omega
 ·have:(2:Nat) ^ (76 + 76) * 64 <= 2 ^ 200:=by decide
  omega
theorem kg {N A D:Nat} {T:List (Rat × Rat)} (h:Km N A D T):ax_p FU (T.map ms) = some (Sg (cb T),0)/\FQ (cb T):=by
 have hF:=aG
 have hl:=h.len
 obtain ⟨b1,b2⟩:=h.vb
 have hb:Bt 250 200 (cb T):=by
  have hb:=b1 T.length
  rw [List.take_length] at hb
  exact hb
 have fm:=(iY h).2.fq (by decide) (by decide)
 refine ⟨?_,hb.fq (by decide) (by decide)⟩
 have hm:=meanL h
 have hh:=az (B:=ax_l1 FU (T.map ms) (Rt (ay T)).fj.fe (Rt (ay T)).fj.fk (Rt (ay T)).fh.fe (Rt (ay T)).fh.fk) (fun s=>T.length - s.1) (fun s=>∃ i,i <= T.length/\s = (i,fE (ex (fun x=>(x - ay T) * (x - ay T)) (T.take i)))) (fun r=>r = fE (cb T)) ?_ FU (0,fE 0) ⟨0,Nat.zero_le _,rfl⟩ (by simp only; omega)
 ·obtain ⟨r,e,rfl⟩:=hh
  unfold ax_p
  rw [eG h.ds,ab,if_pos rfl]
  have z0:=oO
  rw [z0,ab]
  show Option.bind (ao (aP_l1 FU (T.map ms)) FU (0,fE 0)) _ = _
  rw [hm,ab]
  show Option.bind (ao (ax_l1 FU (T.map ms) (Rt (ay T)).fj.fe (Rt (ay T)).fj.fk (Rt (ay T)).fh.fe (Rt (ay T)).fh.fk) FU (0,fE 0)) _ = _
  rw [e,ab]
  show ((ac_p FU (Rt (cb T))).bind _) = _
  rw [gY (hb.fq (by decide) (by decide)),ab]
 ·rintro s J ⟨i,hi,rfl⟩ hJ
  unfold ax_l1 ca_p fE
  simp only
  by_cases c:i < T.length
  ·have f:=h.ds.fq _ (List.getElem_mem c)
   have f1:=(b1 i).fq (by decide) (by decide)
   obtain ⟨g1,g2,g3⟩:=b2 _ (List.getElem_mem c)
   rw [if_pos (by simpa using c),geE (by simpa using c),ab,List.getElem_map,pG f.2,ab,show (ms T[i]).fo = Sg T[i].1 from rfl,aZ FU _ f.1 (by omega),ab]
   rw [show (⟨⟨(Rt (ay T)).fj.fe,(Rt (ay T)).fj.fk⟩,⟨(Rt (ay T)).fh.fe,(Rt (ay T)).fh.fk⟩⟩:Tc) = Rt (ay T) from rfl,minusT f.1 fm,ab,(fC FU 8 _ _ g1.rf g1.rf (by decide) hF).1,ab,ab,(fC FU 8 _ _ f.2.rf g2.rf (by decide) hF).1,ab]
   rw [show (⟨⟨(Rt (ex (fun x=>(x - ay T) * (x - ay T)) (T.take i))).fj.fe,(Rt (ex (fun x=>(x - ay T) * (x - ay T)) (T.take i))).fj.fk⟩,⟨(Rt (ex (fun x=>(x - ay T) * (x - ay T)) (T.take i))).fh.fe,(Rt (ex (fun x=>(x - ay T) * (x - ay T)) (T.take i))).fh.fk⟩⟩:Tc) = Rt (ex (fun x=>(x - ay T) * (x - ay T)) (T.take i)) from rfl,(gb FU 8 _ _ f1.rf g3.rf (by decide) hF).1,ab,<- mP (fun x=>(x - ay T) * (x - ay T)) c]
   exact hJ _ ⟨i + 1,c,rfl⟩ (by simp only; omega)
  ·rw [if_neg (by simpa using c)]
   refine ⟨_,rfl,?_⟩
   rw [List.take_of_length_le (by omega)]; rfl
end Go.Proofs.YtkommhmbkbhmlaaGreat
namespace Go.Proofs.YtkommhmbkbhmlaaGreat
open Go
set_option maxRecDepth 8000
theorem jO {e:Rat × Rat} {T U:List (Rat × Rat)}:e ∈ prs T U ↔ ∃ x ∈ T,∃ y ∈ U,e = (x.1 + y.1,x.2 * y.2):=by
 unfold prs row
 rw [List.mem_flatMap]
 constructor
 ·rintro ⟨x,hx,he⟩
  obtain ⟨y,hy,rfl⟩:=List.mem_map.1 he
  exact ⟨x,hx,y,hy,rfl⟩
 ·rintro ⟨x,hx,y,hy,rfl⟩
  exact ⟨x,hx,List.mem_map.2 ⟨y,hy,rfl⟩⟩
theorem jk (U:List (Rat × Rat)):∀ T,(prs T U).length = T.length * U.length
 | []=>by simp [prs]
 | e :: l=>by
  rw [gL,List.length_append,jk U l,leC,Nat.add_mul,Nat.one_mul]
  unfold row
  rw [List.length_map]; omega
theorem ov {N M:Nat} {T U:List (Rat × Rat)} (h:Dn N N T) (k:Dn M M U) (hN:N <= 8) (hM:M <= 8) (h0:0 < N) (k0:0 < M):Wd (N * M) (prs T U):=by
 have l1:=h.len
 have l2:=k.len
 have hle:N * M <= 8 * 8:=Nat.mul_le_mul hN hM
 have hll:T.length * U.length <= 8 * 8:=Nat.mul_le_mul (by omega) (by omega)
 refine ⟨Nat.mul_pos h0 k0,by omega,fun e he=>?_,fun e he=>?_,prs_sW (h.dw h0 hN).one (k.dw k0 hM).one,by rw [jk]; omega⟩
 ·obtain ⟨x,hx,y,hy,rfl⟩:=jO.1 he
  exact ((h.key x hx).bt.add (k.key y hy).bt (i:=16) (by decide) (by decide)).mono (by decide) (by decide)
 ·obtain ⟨x,hx,y,hy,rfl⟩:=jO.1 he
  obtain ⟨a,a0,a1,a2⟩:=h.wts x hx
  obtain ⟨b,b0,b1,b2⟩:=k.wts y hy
  exact ⟨a * b,Nat.mul_pos a0 b0,Nat.mul_le_mul a1 b1,by show x.2 * y.2 = _; rw [a2,b2,un_mm]⟩
theorem jh {g:Rat -> Rat} {e:Rat × Rat} {T:List (Rat × Rat)}:e ∈ mv g T ↔ ∃ x ∈ T,e = (g x.1,x.2):=by
 unfold mv
 rw [List.mem_map]
 exact ⟨fun ⟨x,hx,h⟩=>⟨x,hx,h.symm⟩,fun ⟨x,hx,h⟩=>⟨x,hx,h.symm⟩⟩
theorem mv_wd {N:Nat} {T:List (Rat × Rat)} {g:Rat -> Rat} (h:Dn N N T) (hN:N <= 8) (h0:0 < N) (hg:∀ e ∈ T,Bt 40 40 (g e.1)):Wd N (mv g T):=by
 have l1:=h.len
 refine ⟨h0,by omega,fun e he=>?_,fun e he=>?_,by rw [og,(h.dw h0 hN).one],by rw [cB]; omega⟩
 ·obtain ⟨x,hx,rfl⟩:=jh.1 he
  exact hg x hx
 ·obtain ⟨x,hx,rfl⟩:=jh.1 he
  exact h.wts x hx
theorem Wd.km {N A D:Nat} {W Z:List (Rat × Rat)} (h:Wd N W) (g:Gat W Z) (u:Up Z) (hN:N <= 64) (hl:W.length <= 64) (hk:∀ e ∈ W,Cd A D e.1) (d0:0 < D) (a1:A < 2 ^ 90) (d1:D < 2 ^ 70):Km N A D Z:=by
 refine ⟨h.dw g u,h.pos,hN,Nat.le_trans g.len hl,fun e he=>?_,d0,a1,d1⟩
 obtain ⟨h1,_⟩:=(g.mem e).1 he
 obtain ⟨d,hd,e1⟩:=List.mem_map.1 h1
 rw [<- e1]; exact hk d hd
theorem Gat.of {P Q D:List (Rat × Rat)} (h:Gat P D) (hp:P.Perm Q):Gat Q D:=
 ⟨h.nd,fun x=>(h.keys x).trans (hp.map _).mem_iff,fun x=>(h.wts x).trans (wt_perm x hp),by rw [<- hp.length_eq]; exact h.len⟩
theorem mA (f:Rat × Rat -> Rat × Rat) (g:Rat × Rat -> List (Rat × Rat)):∀ U:List (Rat × Rat),(U.flatMap fun y=>f y :: g y).Perm (U.map f ++ U.flatMap g)
 | []=>.refl _
 | y :: U=>by
  rw [List.flatMap_cons,List.flatMap_cons,List.map_cons,List.cons_append,List.cons_append]
  refine .cons _ ?_
  exact ((mA f g U).append_left _).trans (List.perm_append_comm_assoc ..)
theorem kM (U:List (Rat × Rat)):∀ T,(prs T U).Perm (prs U T)
 | []=>by
  have:prs U [] = []:=by
   unfold prs row
   simp
  rw [this]; exact .refl _
 | e :: l=>by
  rw [gL]
  have h1:=mA (fun y=>(y.1 + e.1,y.2 * e.2)) (fun y=>row y l) U
  have h2:prs U (e :: l) = U.flatMap fun y=>(y.1 + e.1,y.2 * e.2) :: row y l:=rfl
  rw [h2]
  refine List.Perm.trans ?_ h1.symm
  have h3:row e U = U.map fun y=>(y.1 + e.1,y.2 * e.2):=by
   unfold row
   exact List.map_congr_left fun y _=>Prod.ext (Rat.add_comm ..) (Rat.mul_comm ..)
  rw [h3]
  exact (kM U l).append_left _
theorem sumL1 {N:Nat} {W A B U:List (Rat × Rat)} {d:Rat × Rat} (hW:Wd N W) (hu:Ds U) (fd:FQ d.1/\FQ d.2) (e:W = A ++ (row d U ++ B)) :
  ao (bq_l1 FU (U.map ms) (ms d)) FU (0,[],false,(bY A).map mk2) = some ([],false,(bY (A ++ row d U)).map mk2):=by
 have hF:=aG
 obtain ⟨l1,l2⟩:=hu.len
 have hs:(row d U).length = U.length:=List.length_map ..
 have hh:=az (B:=bq_l1 FU (U.map ms) (ms d)) (fun s=>U.length - s.1) (fun s=>∃ i,i <= U.length/\s = (i,[],false,(bY (A ++ (row d U).take i)).map mk2)) (fun r=>r = ([],false,(bY (A ++ row d U)).map mk2)) ?_ FU (0,[],false,(bY A).map mk2) ⟨0,Nat.zero_le _,by rw [List.take_zero,List.append_nil]⟩ (by simp only; omega)
 ·obtain ⟨r,e,rfl⟩:=hh
  exact e
 ·rintro s J ⟨i,hi,rfl⟩ hJ
  unfold bq_l1 jn
  simp only
  by_cases c:i < U.length
  ·have f:=hu.fq _ (List.getElem_mem c)
   have hin:(row d U)[i]'(by omega) = (d.1 + U[i].1,d.2 * U[i].2):=by unfold row; rw [List.getElem_map]
   obtain ⟨g1,g2⟩:=hW.fq (d.1 + U[i].1,d.2 * U[i].2) (by
    rw [e,<- hin]
    exact List.mem_append_right _ (List.mem_append_left _ (List.getElem_mem _)))
   have hd:=hW.pre (A:=A ++ (row d U).take i) (B:=(row d U).drop i ++ B) (by
    rw [e,List.append_assoc,<- List.append_assoc (List.take i _),List.take_append_drop])
   rw [if_pos (by simpa using c),geE (by simpa using c),ab,List.getElem_map,show (ms d).fo = Sg d.1 from rfl,aZ FU _ fd.1 (by omega),ab,show (ms U[i]).fo = Sg U[i].1 from rfl,aZ FU _ f.1 (by omega),ab,(gb FU 8 _ _ fd.1.rf f.1.rf (by decide) hF).1,ab,gY g1,ab]
   simp only
   rw [if_pos trivial,pG fd.2,ab,pG f.2,ab,(fC FU 8 _ _ fd.2.rf f.2.rf (by decide) hF).1,ab,ab]
   simp only
   rw [if_pos trivial,lA g1 g2 hd (fun D=>J (i + 1,[],false,D))]
   refine hJ _ ⟨i + 1,c,?_⟩ (by simp only; omega)
   rw [List.take_succ_eq_append_getElem (by omega),hin,<- List.append_assoc,mZ]
  ·rw [if_neg (by simpa using c)]
   refine ⟨_,rfl,?_⟩
   rw [List.take_of_length_le (by omega)]
theorem sumG {N:Nat} {T U:List (Rat × Rat)} (h:Ds T) (k:Ds U) (hW:Wd N (prs T U)):bq_p FU (T.map ms) (U.map ms) = some ((fS (prs T U)).map ms,0):=by
 have hF:=aG
 obtain ⟨l1,l2⟩:=h.len
 have hh:=az (B:=bq_l2 FU (T.map ms) (U.map ms)) (fun s=>T.length - s.1) (fun s=>∃ i,i <= T.length/\s = (i,[],false,(bY (prs (T.take i) U)).map mk2)) (fun r=>r = ((bY (prs T U)).map mk2,[],false)) ?_ FU (0,[],false,[]) ⟨0,Nat.zero_le _,rfl⟩ (by simp only; omega)
 ·obtain ⟨r,e,rfl⟩:=hh
  have g:=dL (prs T U)
  have hlen:=Nat.le_trans g.len hW.len
  have hfq:=hW.pre (A:=prs T U) (B:=[]) (List.append_nil _).symm
  obtain ⟨c1,c2⟩:=gU (prs T U)
  unfold bq_p
  rw [asked2 h k,ab,if_pos rfl,e,ab]
  simp only
  rw [aS (by simp only [List.length_map,leN]; omega) (by simp only [List.length_map,leN]; omega),ab]
  rw [if_neg (show ¬ 400 < ((((bY (prs T U)).map mk2).length:Nat):Int) + ((([]:List (ByteArray × Bool)).length:Nat):Int) by simp only [List.length_map,leN]; omega),if_neg (show ¬ 400 < ((bY (prs T U)).map mk2).length by rw [List.length_map]; omega)]
  exact ji (fun xs=>rfl) (fun e J xs=>rfl) hfq g.nd c2 (c1.perm2 g) (by omega)
 ·rintro s J ⟨i,hi,rfl⟩ hJ
  unfold bq_l2
  simp only
  by_cases c:i < T.length
  ·have f:=h.fq _ (List.getElem_mem c)
   have ht:prs (T.take (i + 1)) U = prs (T.take i) U ++ row T[i] U:=by
    unfold prs
    rw [List.take_succ_eq_append_getElem c,List.flatMap_append]
    simp
   have hsp:prs T U = prs (T.take i) U ++ (row T[i] U ++ prs (T.drop (i + 1)) U):=by
    rw [<- List.append_assoc,<- ht]
    unfold prs
    rw [<- List.flatMap_append,List.take_append_drop]
   rw [if_pos (by simpa using c),geE (by simpa using c),ab,List.getElem_map,sumL1 hW k f hsp,ab]
   simp only
   refine hJ _ ⟨i + 1,c,?_⟩ (by simp only; omega)
   rw [ht]
  ·rw [if_neg (by simpa using c)]
   refine ⟨_,rfl,?_⟩
   rw [List.take_of_length_le (by omega)]
theorem shiftL {T:List (Rat × Rat)} (h:Ds T) {y:Rat} (hy:FQ y) (hg:∀ e ∈ T,FQ (y + e.1)):ao (bD_l1 FU (T.map ms) (Rt y)) FU (0,false,[]) = some ((bY (mv (fun x=>y + x) T)).map mk2,false):=by
 have hF:=aG
 obtain ⟨l1,l2⟩:=h.len
 have hh:=az (B:=bD_l1 FU (T.map ms) (Rt y)) (fun s=>T.length - s.1) (fun s=>∃ i,i <= T.length/\s = (i,false,(bY ((mv (fun x=>y + x) T).take i)).map mk2))
   (fun r=>r = ((bY (mv (fun x=>y + x) T)).map mk2,false)) ?_ FU (0,false,[]) ⟨0,Nat.zero_le _,rfl⟩ (by simp only; omega)
 ·obtain ⟨r,e,rfl⟩:=hh
  exact e
 ·rintro s J ⟨i,hi,rfl⟩ hJ
  simp only at hJ
  unfold bD_l1
  simp only
  by_cases c:i < T.length
  ·have f:=h.fq _ (List.getElem_mem c)
   have fg:=hg _ (List.getElem_mem c)
   rw [if_pos (by simpa using c),geE (by simpa using c),ab,List.getElem_map]
   rw [show (ms T[i]).fo = Sg T[i].1 from rfl,aZ FU _ f.1 (by omega),ab,(gb FU 8 _ _ hy.rf f.1.rf (by decide) hF).1,ab,pG f.2,ab,gY fg,ab,if_pos rfl]
   rw [lA fg f.2 (h.gath_fq _ hg i) (fun D=>J (i + 1,false,D))]
   refine hJ _ ⟨i + 1,c,?_⟩ (by simp only; omega)
   rw [iW (by rw [cB]; exact c)]
   unfold mv
   rw [List.getElem_map]
  ·rw [if_neg (by simpa using c)]
   refine ⟨_,rfl,?_⟩
   rw [List.take_of_length_le (by rw [cB]; omega)]
theorem shiftG {T U:List (Rat × Rat)} (h:Ds T) {y:Rat} (hy:FQ y) (hg:∀ e ∈ T,FQ (y + e.1)) (hu:Up U) (hp:Gat (mv (fun x=>y + x) T) U):bD_p FU (T.map ms) (Sg y) = some (U.map ms,0):=by
 have hF:=aG
 obtain ⟨l1,l2⟩:=h.len
 have g:=dL (mv (fun x=>y + x) T)
 have hl:=g.len
 rw [cB] at hl
 have hfq:=h.gath_fq (fun x=>y + x) hg T.length
 rw [List.take_of_length_le (by rw [cB]; omega)] at hfq
 unfold bD_p
 rw [oF h hy,ab,if_pos rfl,aZ FU _ hy (by omega),ab,shiftL h hy hg,ab]
 simp only
 rw [if_neg (by rw [List.length_map]; omega)]
 refine ji (fun xs=>rfl) (fun e J xs=>rfl) hfq g.nd hu (hp.perm2 g) (by omega)
theorem oo:cg_p FU = some true:=by kernel_rfl
theorem addD {a b:Rat} (ha:FQ a) (hb:FQ b) (h:FQ (a + b)):cA_p FU (Sg a) (Sg b) = some (Sg (a + b),0):=add_q ha hb h aG
theorem iA (a0 a1:Ti) (a2:Th):bs_p FU a0 a1 a2 = some true:=by
 have hF:=aG
 obtain ⟨N,T,e1,n0,n8,dT⟩:=me a0
 obtain ⟨M,U,e2,m0,m8,dU⟩:=me a1
 obtain ⟨c,e3,hc⟩:=pj a2
 have hT:=dT.dw n0 n8
 have hU:=dU.dw m0 m8
 have sT:=hT.one
 have sU:=hU.one
 have fc:=hc.bt.q
 have lT:=dT.len
 have lU:=dU.len
 have cc:=hc.cd
 have pc:0 < LC:=by decide
 have kT:Km N (1000 * LC) LC T:=⟨dT.toDw n8,n0,by omega,by omega,fun e he=>(dT.key e he).cd,by decide,by decide,by decide⟩
 have kU:Km M (1000 * LC) LC U:=⟨dU.toDw m8,m0,by omega,by omega,fun e he=>(dU.key e he).cd,by decide,by decide,by decide⟩
 -- the sum
 have hle:N * M <= 8 * 8:=Nat.mul_le_mul n8 m8
 have hll:T.length * U.length <= 8 * 8:=Nat.mul_le_mul (by omega) (by omega)
 have hlr:U.length * T.length <= 8 * 8:=Nat.mul_le_mul (by omega) (by omega)
 have wS:=ov dT dU n8 m8 n0 m0
 have wS' :=ov dU dT m8 n8 m0 n0
 obtain ⟨gS,uS⟩:=gU (prs T U)
 obtain ⟨gS', uS'⟩:=gU (prs U T)
 have hS:=wS.ds gS uS
 have e4:=sumG hT hU wS
 have e5:=sumG hU hT wS'
 have hsame:fS (prs T U) = fS (prs U T):=gS.one (gS'.of (kM T U)) uS uS'
 have kS:=wS.km (A:=1000 * LC + 1000 * LC) (D:=LC) gS uS (by omega) (by rw [jk]; omega) (fun e he=>by
  obtain ⟨x,hx,y,hy,rfl⟩:=jO.1 he
  exact (dT.key x hx).cd.add pc (dU.key y hy).cd) (by decide) (by decide) (by decide)
 -- the shift
 have bH:∀ e ∈ T,Bt 40 40 (c + e.1):=fun e he=>(hc.bt.add (dT.key e he).bt (i:=16) (by decide) (by decide)).mono (by decide) (by decide)
 have wH:=mv_wd (g:=fun x=>c + x) dT n8 n0 bH
 obtain ⟨gH,uH⟩:=gU (mv (fun x=>c + x) T)
 have e6:=shiftG hT fc (fun e he=>(bH e he).k) uH gH
 have kH:=wH.km (A:=1000 * LC + 1000 * LC) (D:=LC) gH uH (by omega) (by rw [cB]; omega) (fun e he=>by
  obtain ⟨x,hx,rfl⟩:=jh.1 he
  exact cc.add pc (dT.key x hx).cd) (by decide) (by decide) (by decide)
 -- the multiple
 have bX:∀ e ∈ T,Bt 40 40 (c * e.1):=fun e he=>(hc.bt.mul (dT.key e he).bt).mono (by decide) (by decide)
 have wX:=mv_wd (g:=fun x=>c * x) dT n8 n0 bX
 obtain ⟨gX,uX⟩:=gU (mv (fun x=>c * x) T)
 have e7:=scaleG hT fc (fun e he=>(bX e he).k) uX gX
 have hX:=wX.ds gX uX
 have kX:=wX.km (A:=1000 * LC * (1000 * LC)) (D:=LC * LC) gX uX (by omega) (by rw [cB]; omega) (fun e he=>by
  obtain ⟨x,hx,rfl⟩:=jh.1 he
  exact cc.mul (dT.key x hx).cd) (by decide) (by decide) (by decide)
 -- means and variances
 have mS:=(eW gS).trans (jW sT sU)
 have vS:=(ic gS).trans (nH sT sU)
 have mH:=(eW gH).trans (mu sT c)
 have vH:=(ic gH).trans (vari_sh sT c)
 have mX:=(eW gX).trans (mD T c)
 have vX:=(ic gX).trans (vari_sc T c)
 rw [hsame] at e4 hS kS mS vS
 generalize fS (prs U T) = Y at *
 generalize fS (mv (fun x=>c + x) T) = H at *
 generalize fS (mv (fun x=>c * x) T) = X at *
 obtain ⟨p1,q1⟩:=iY kT
 obtain ⟨p2,q2⟩:=iY kU
 obtain ⟨p3,q3⟩:=iY kS
 obtain ⟨p4,q4⟩:=iY kH
 obtain ⟨p5,q5⟩:=iY kX
 obtain ⟨r1,s1⟩:=kg kT
 obtain ⟨r2,s2⟩:=kg kU
 obtain ⟨r3,s3⟩:=kg kS
 obtain ⟨r4,s4⟩:=kg kH
 obtain ⟨r5,s5⟩:=kg kX
 replace q1:FQ (ay T):=q1.fq (by decide) (by decide)
 replace q2:FQ (ay U):=q2.fq (by decide) (by decide)
 replace q3:FQ (ay Y):=q3.fq (by decide) (by decide)
 replace q4:FQ (ay H):=q4.fq (by decide) (by decide)
 replace q5:FQ (ay X):=q5.fq (by decide) (by decide)
 have fcc:FQ (c * c):=(hc.bt.mul hc.bt).fq (by decide) (by decide)
 rw [mS] at p3 q3
 rw [vS] at r3 s3
 rw [mH] at p4 q4
 rw [vH] at r4 s4
 rw [mX] at p5 q5
 rw [vX] at r5 s5
 unfold bs_p jn
 rw [oo,ab,if_pos rfl,e1,ab,e2,ab,e3,ab,e4,ab,e5,ab,e6,ab,e7,ab]
 simp only
 rw [if_pos trivial,if_pos trivial,if_pos trivial,if_pos trivial,sameD hS.fq hS.fq (by have:=hS.len; omega),ab,if_pos (decide_eq_true rfl),eG hS,ab,if_pos rfl,eG hX,ab,if_neg (by decide)]
 rw [p1,ab,r1,ab]
 simp only
 rw [if_pos trivial,if_pos trivial,p2,ab,r2,ab]
 simp only
 rw [if_pos trivial,if_pos trivial,p3,ab,r3,ab]
 simp only
 rw [if_pos trivial,if_pos trivial,p4,ab,r4,ab]
 simp only
 rw [if_pos trivial,if_pos trivial,p5,ab,r5,ab]
 simp only
 rw [if_pos trivial,if_pos trivial,nN fc fc fcc hF,ab,addD q1 q2 q3,ab,addD s1 s2 s3,ab,addD q1 fc q4,ab,nN q1 fc q5 hF,ab]
 simp only
 rw [nN s1 fcc s5 hF,ab]
 simp only
 rw [if_pos trivial,if_pos trivial,if_pos trivial,if_pos trivial,if_pos trivial,if_pos trivial,if_pos trivial,if_pos trivial,if_pos trivial,if_pos trivial]; rfl
theorem iv (a0 a1:Ti) (a2:Th):∃ n,bs_p n a0 a1 a2 = some true:=⟨FU,iA a0 a1 a2⟩
end Go.Proofs.YtkommhmbkbhmlaaGreat
