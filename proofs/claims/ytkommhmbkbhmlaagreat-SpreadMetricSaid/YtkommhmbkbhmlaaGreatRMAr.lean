/- Plain law: the program's distance is the distance. No program in sight but the printed functions. -/
import Derived.Test.YtkommhmbkbhmlaaGreatRMAk
namespace Go.Proofs.YtkommhmbkbhmlaaGreat
open Go
set_option maxRecDepth 8000
def nw (U:List (Rat × Rat)):List (Rat × Rat):=U.map fun e=>(e.1,-e.2)
theorem ph (x:Rat):∀ U,wt x (nw U) = -wt x U
 | []=>by show (0:Rat) = -0; grind
 | e :: l=>by
  show (if e.1 = x then -e.2 else 0) + wt x (nw l) = -((if e.1 = x then e.2 else 0) + wt x l)
  rw [ph x l]
  split <;> grind
theorem mX (U:List (Rat × Rat)):(nw U).map (·.1) = U.map (·.1):=by
 unfold nw
 rw [List.map_map]; rfl
theorem Ds.wt_bt {T:List (Rat × Rat)} (h:Ds T) (x:Rat) (i:Nat):Bt 20 20 (wt x (T.take i)):=by
 rw [eA]
 exact h.bt (iN (fun e=>decide (e.1 = x)) T i)
theorem Ds.wt_un {T:List (Rat × Rat)} {N:Nat} (h:Dw N T) (h0:0 < N) (x:Rat):∃ k,k <= N/\wt x T = un k N:=by
 obtain ⟨a,a1,_⟩:=fU (N:=N) (A:=T.filter fun e=>decide (e.1 = x)) fun e he=>h.wts e (List.mem_filter.1 he).1
 obtain ⟨b,b1,_⟩:=fU (N:=N) (A:=T.filter fun e=>!decide (e.1 = x)) fun e he=>h.wts e (List.mem_filter.1 he).1
 have hs:sW (T.filter fun e=>decide (e.1 = x)) + sW (T.filter fun e=>!decide (e.1 = x)) = un N N:=by
  rw [<- eS,gN (List.filter_append_perm _ T),h.sum]
 have h2:un (a + b) N = un N N:=by rw [<- hs,a1,b1,ck]
 have h1:a + b <= N:=(dL h0).1 (h2 ▸ Rat.le_refl)
 exact ⟨a,by omega,by rw [eA,a1]⟩
theorem gg {k N M:Nat} (hM:0 < M):un (k * M) (N * M) = un k N:=by
 unfold un
 rw [Int.natCast_mul,Int.natCast_mul]
 exact Rat.divInt_mul_right (by omega)
theorem mF (a b:Nat) {L:Nat} (h:0 < L):bb (un a L - un b L) = un (a - b) L:=by
 by_cases c:b <= a
 ·have h1:=ck (a - b) b L
  rw [Nat.sub_add_cancel c] at h1
  have h2:0 <= un (a - b) L:=by rw [<- bA L]; exact (dL h).2 (Nat.zero_le _)
  unfold bb
  split <;> grind
 ·rw [show a - b = 0 by omega,bA]
  have:=(dL (a:=a) (b:=b) h).2 (by omega)
  unfold bb
  rw [if_neg (by grind)]
def sP:List (Rat × Rat) -> Rat
 | []=>0
 | e :: l=>bb e.2 + sP l
theorem sP_perm {l m:List (Rat × Rat)} (h:l.Perm m):sP l = sP m:=by
 induction h with
 | nil=>rfl
 | cons x _ ih=>show bb x.2 + _ = bb x.2 + _; rw [ih]
 | swap x y l=>show bb y.2 + (bb x.2 + sP l) = bb x.2 + (bb y.2 + sP l); grind
 | trans _ _ h1 h2=>rw [h1,h2]
theorem sP_dk {T U:List (Rat × Rat)}:∀ {l:List (Rat × Rat)},(∀ e ∈ l,e.2 = wt e.1 T - wt e.1 U) -> sP l = dsk T U (l.map (·.1))
 | [],_=>rfl
 | e :: l,h=>by
  show bb e.2 + sP l = bb (wt e.1 T - wt e.1 U) + dsk T U (l.map (·.1))
  rw [<- h e (List.mem_cons_self ..),sP_dk fun d hd=>h d (List.mem_cons_of_mem _ hd)]
theorem ox {α β:Type} {f:α -> β} {l m:List β} (h:l.Perm m):∀ D:List α,m = D.map f -> ∃ E:List α,E.Perm D/\l = E.map f:=by
 induction h with
 | nil=>exact fun D h=>⟨D,.refl _,h⟩
 | cons x _ ih=>
  intro D h
  cases D with
  | nil=>cases h
  | cons d D=>
   rw [List.map_cons] at h
   injection h with h1 h2
   obtain ⟨E,e1,e2⟩:=ih D h2
   exact ⟨d :: E,e1.cons d,by rw [List.map_cons,h1,e2]⟩
 | swap x y l=>
  intro D h
  cases D with
  | nil=>cases h
  | cons d D=>
   cases D with
   | nil=>cases h
   | cons c D=>
    rw [List.map_cons,List.map_cons] at h
    injection h with h1 h2
    injection h2 with h2 h3
    exact ⟨c :: d :: D,.swap d c D,by rw [List.map_cons,List.map_cons,h1,h2,h3]⟩
 | trans _ _ h1 h2=>
  intro D h
  obtain ⟨E,e1,e2⟩:=h2 D h
  obtain ⟨F,f1,f2⟩:=h1 E e2
  exact ⟨F,f1.trans e1,f2⟩
def gl (q:Rat):Bool × List UInt64 × Bool × List UInt64:=((Rt q).fh.fc,(Rt q).fh.fj,(Rt q).fe.fc,(Rt q).fe.fj)
def kN (s:Bool × List UInt64 × Bool × List UInt64) (e:Ta × Tc):Bool × List UInt64 × Bool × List UInt64:=
 match aG_p FU e.2.fh with
 | some z=>if 0 < z then (match aa_p FU ⟨⟨s.1,s.2.1⟩,⟨s.2.2.1,s.2.2.2⟩⟩ e.2 with
  | some y=>(y.fh.fc,y.fh.fj,y.fe.fc,y.fe.fj)
  | none=>s) else s
 | none=>s
theorem numpos2 {q:Rat} (h:0 < q.num):0 < q:=by
 refine (Rat.lt_iff _ _).2 ?_
 have e1:(0:Rat).num = 0:=rfl
 have e2:((0:Rat).den:Int) = 1:=rfl
 rw [e1,e2]
 omega
theorem sideG (q:Rat):∃ z,aG_p FU (Rt q).fh = some z/\(0 < z ↔ 0 < q):=by
 refine ⟨_,cL FU q.num,?_⟩
 rw [Int.sign_pos_iff]
 exact ⟨numpos2,oG⟩
theorem ky {q:Rat} {e:Rat × Rat} (hq:FQ q) (he:FQ e.2):kN (gl q) (mk2 e) = gl (q + bb e.2):=by
 obtain ⟨z,z1,z2⟩:=sideG e.2
 unfold kN
 rw [show (mk2 e).2 = Rt e.2 from rfl,z1]
 simp only
 unfold bb
 by_cases c:0 < e.2
 ·rw [if_pos (z2.2 c),if_pos c,show (⟨⟨(gl q).1,(gl q).2.1⟩,⟨(gl q).2.2.1,(gl q).2.2.2⟩⟩:Tc) = Rt q from rfl,(im FU 8 _ _ hq.rf he.rf (by decide) aI).1]
  rfl
 ·rw [if_neg (fun hc=>c (z2.1 hc)),if_neg c,Rat.add_zero]
theorem un_k {K L:Nat} (h:0 < L) (hL:L <= 1000000000000) (hK:K <= 1000 * L):FQ (un K L):=(Bt.of (i:=50) (j:=40) (by omega) (by omega) (by omega)).fq (by decide) (by decide)
theorem mu {L:Nat} (h0:0 < L) (hL:L <= 1000000000000):∀ (l:List (Rat × Rat)) (K:Nat),(∀ e ∈ l,FQ e.2/\∃ k,k <= L/\bb e.2 = un k L) -> K + l.length * L <= 1000 * L ->
  (l.map mk2).foldl kN (gl (un K L)) = gl (un K L + sP l)/\∃ M,M <= 1000 * L/\un K L + sP l = un M L
 | [],K,_,hK=>by
  rw [show sP [] = 0 from rfl,Rat.add_zero]
  exact ⟨rfl,K,by simpa using hK,rfl⟩
 | e :: l,K,h,hK=>by
  obtain ⟨f,k,k1,k2⟩:=h e (List.mem_cons_self ..)
  rw [leC,Nat.add_mul,Nat.one_mul] at hK
  have ih:=mu h0 hL l (K + k) (fun d hd=>h d (List.mem_cons_of_mem _ hd)) (by omega)
  have e1:un (K + k) L = un K L + bb e.2:=by rw [k2,ck]
  rw [e1] at ih
  rw [List.map_cons,List.foldl_cons,ky (un_k h0 hL (by omega)) f,show sP (e :: l) = bb e.2 + sP l from rfl,<- Rat.add_assoc]
  exact ih
theorem asked2 {T U:List (Rat × Rat)} (h:Ds T) (k:Ds U):ak_p FU [T.map ms,U.map ms] [] = some 0:=by
 have hF:=aI
 have e3:ap (ak_l3 FU [T.map ms,U.map ms] []) FU 0 = some (.inr ()):=by
  have s0:∀ J,ak_l3 FU [T.map ms,U.map ms] [] J 0 = J 1:=fun J=>by
   show ((bR_p FU (T.map ms)).bind _) = _
   unfold bR_p
   rw [jT h]; rfl
  have s1:∀ J,ak_l3 FU [T.map ms,U.map ms] [] J 1 = J 2:=fun J=>by
   show ((bR_p FU (U.map ms)).bind _) = _
   unfold bR_p
   rw [jT k]; rfl
  obtain ⟨m,hm⟩:∃ m,FU = m + 3:=⟨FU - 3,by omega⟩
  have e:ap (ak_l3 FU [T.map ms,U.map ms] []) (m + 3) 0 = some (.inr ()):=by
   rw [aV,s0,aV,s1,aV]; rfl
  rw [<- hm] at e
  exact e
 have e2:ap (ak_l2 FU []) FU 0 = some (.inr ()):=by
  rw [loop2 (by omega)]; rfl
 unfold ak_p
 rw [e3]
 show (if (0:Int) <= -1 then some (50:Int) else _) = _
 rw [if_neg (by decide),e2]; rfl
theorem jZ {T U:List (Rat × Rat)} (h:Ds T) (k:Ds U) (i j:Nat):∀ e ∈ aW (T.take i ++ (nw U).take j),FQ e.1/\FQ e.2:=fun e he=>by
 obtain ⟨h1,h2⟩:=((dQ _).mem e).1 he
 refine ⟨?_,?_⟩
 ·rw [List.map_append,List.mem_append] at h1
  rcases h1 with h1 | h1
  ·obtain ⟨d,hd,e1⟩:=List.mem_map.1 h1
   rw [<- e1]
   exact (h.fq d (List.mem_of_mem_take hd)).1
  ·rw [List.map_take,mX,<- List.map_take] at h1
   obtain ⟨d,hd,e1⟩:=List.mem_map.1 h1
   rw [<- e1]
   exact (k.fq d (List.mem_of_mem_take hd)).1
 ·rw [h2,gh,show (nw U).take j = nw (U.take j) from by unfold nw; rw [List.map_take],ph,<- Rat.sub_eq_add_neg]
  exact ((h.wt_bt e.1 i).sub (k.wt_bt e.1 j) (i:=41) (by decide) (by decide)).fq (by decide) (by decide)
theorem distL1 {T U:List (Rat × Rat)} (h:Ds T) (k:Ds U):ap (ap_l2 FU (T.map ms)) FU (0,[]) = some ((aW T).map mk2)/\ap (ap_l1 FU (U.map ms)) FU (0,(aW T).map mk2) = some ((aW (T ++ nw U)).map mk2):=by
 have hF:=aI
 obtain ⟨l1,l2⟩:=h.len
 obtain ⟨m1,m2⟩:=k.len
 have hn:(nw U).length = U.length:=List.length_map ..
 constructor
 ·have hh:=ay (B:=ap_l2 FU (T.map ms)) (fun s=>T.length - s.1) (fun s=>∃ i,i <= T.length/\s = (i,(aW (T.take i)).map mk2)) (fun r=>r = (aW T).map mk2) ?_ FU (0,[]) ⟨0,Nat.zero_le _,rfl⟩ (by simp only; omega)
  ·obtain ⟨r,e,rfl⟩:=hh
   exact e
  ·rintro s J ⟨i,hi,rfl⟩ hJ
   unfold ap_l2
   simp only
   by_cases c:i < T.length
   ·have f:=h.fq _ (List.getElem_mem c)
    have hd:=jZ h k i 0
    rw [List.take_zero,List.append_nil] at hd
    rw [if_pos (by simpa using c),geE (by simpa using c),ab,List.getElem_map,pG f.2,ab,show (ms T[i]).fl = Sg T[i].1 from rfl]
    rw [lG f.1 f.2 hd (fun D=>J (i + 1,D))]
    refine hJ _ ⟨i + 1,c,?_⟩ (by simp only; omega)
    rw [nr c]
   ·rw [if_neg (by simpa using c)]
    refine ⟨_,rfl,?_⟩
    rw [List.take_of_length_le (by omega)]
 ·have hh:=ay (B:=ap_l1 FU (U.map ms)) (fun s=>U.length - s.1) (fun s=>∃ i,i <= U.length/\s = (i,(aW (T ++ (nw U).take i)).map mk2)) (fun r=>r = (aW (T ++ nw U)).map mk2) ?_ FU (0,(aW T).map mk2) ⟨0,Nat.zero_le _,by rw [List.take_zero,List.append_nil]⟩ (by simp only; omega)
  ·obtain ⟨r,e,rfl⟩:=hh
   exact e
  ·rintro s J ⟨i,hi,rfl⟩ hJ
   unfold ap_l1
   simp only
   by_cases c:i < U.length
   ·have f:=k.fq _ (List.getElem_mem c)
    have g:FQ (-U[i].2):=by
     obtain ⟨N,n1,n2,d⟩:=k
     obtain ⟨a,_,a2,a3⟩:=d.wts _ (List.getElem_mem c)
     rw [a3]
     exact (oa n1 n2 (by omega)).neg.fq (by decide) (by decide)
    have hd:=jZ h k T.length i
    rw [List.take_length] at hd
    rw [if_pos (by simpa using c),geE (by simpa using c),ab,List.getElem_map,pG f.2,ab,mH FU 8 _ f.2.rf (by decide) hF,ab,show (ms U[i]).fl = Sg U[i].1 from rfl]
    rw [lG f.1 g hd (fun D=>J (i + 1,D))]
    refine hJ _ ⟨i + 1,c,?_⟩ (by simp only; omega)
    unfold aW
    rw [List.take_succ_eq_append_getElem (by rw [hn]; exact c),<- List.append_assoc]
    simp only [List.foldl_append,nw,List.getElem_map]
    rfl
   ·rw [if_neg (by simpa using c)]
    refine ⟨_,rfl,?_⟩
    rw [List.take_of_length_le (by rw [hn]; omega)]
theorem kY {T U:List (Rat × Rat)} (h:Ds T) (k:Ds U) {K:List Rat} (hT:Cov T K) (hU:Cov U K):ap_p FU (T.map ms) (U.map ms) = some (Sg (dsk T U K),0)/\FQ (dsk T U K):=by
 have hF:=aI
 obtain ⟨e1,e2⟩:=distL1 h k
 have g:=dQ (T ++ nw U)
 have hk:∀ x,x ∈ (aW (T ++ nw U)).map (·.1) ↔ x ∈ T.map (·.1) ∨ x ∈ U.map (·.1):=fun x=>by
  rw [g.keys,List.map_append,List.mem_append,mX]
 have c1:Cov T ((aW (T ++ nw U)).map (·.1)):=⟨hT.nt,g.nd,fun x hx=>(hk x).2 (.inl hx)⟩
 have c2:Cov U ((aW (T ++ nw U)).map (·.1)):=⟨hU.nt,g.nd,fun x hx=>(hk x).2 (.inr hx)⟩
 have hm:=dk_more c1 c2 hT.nd fun x hx=>((hk x).1 hx).elim (hT.sub x) (hU.sub x)
 have hv:∀ e ∈ aW (T ++ nw U),e.2 = wt e.1 T - wt e.1 U:=fun e he=>by
  rw [((g.mem e).1 he).2,gh,ph,Rat.sub_eq_add_neg]
 have hs:=sP_dk hv
 obtain ⟨N,n1,n2,dT⟩:=id h
 obtain ⟨M,m1,m2,dU⟩:=id k
 have l0:0 < N * M:=Nat.mul_pos n1 m1
 have lL:N * M <= 1000000000000:=Nat.mul_le_mul n2 m2
 have hf:=jZ h k T.length (nw U).length
 rw [List.take_length,List.take_length] at hf
 have hall:∀ e ∈ aW (T ++ nw U),FQ e.2/\∃ k,k <= N * M/\bb e.2 = un k (N * M):=fun e he=>by
  refine ⟨(hf e he).2,?_⟩
  obtain ⟨a,a1,a2⟩:=Ds.wt_un dT n1 e.1
  obtain ⟨b,b1,b2⟩:=Ds.wt_un dU m1 e.1
  refine ⟨a * M - b * N,Nat.le_trans (Nat.sub_le _ _) (Nat.mul_le_mul_right M a1),?_⟩
  rw [hv e he,a2,b2,<- gg (k:=a) (N:=N) m1,<- gg (k:=b) (N:=M) n1,Nat.mul_comm M N]
  exact mF _ _ l0
 have hlen:(aW (T ++ nw U)).length <= 800:=by
  have:=g.len
  have:=h.len
  have:=k.len
  have hn:(nw U).length = U.length:=List.length_map ..
  have a1:=g.len
  rw [List.length_append,hn] at a1
  omega
 have hb:∀ l:List (Rat × Rat),l.Perm (aW (T ++ nw U)) -> (l.map mk2).foldl kN (gl 0) = gl (dsk T U K)/\FQ (dsk T U K):=fun l hl=>by
  have hx:=mu l0 lL l 0 (fun e he=>hall e (hl.mem_iff.1 he)) (by
   rw [Nat.zero_add]
   exact Nat.mul_le_mul_right _ (by rw [hl.length_eq]; omega))
  rw [bA,Rat.zero_add,sP_perm hl,hs,<- hm] at hx
  obtain ⟨x1,R,x2,x3⟩:=hx
  exact ⟨x1,by rw [x3]; exact un_k l0 lL x2⟩
 have hq:=(hb _ (.refl _)).2
 refine ⟨?_,hq⟩
 unfold ap_p
 rw [asked2 h k,ab,if_pos rfl,e1,ab,e2,ab,oM,ab]
 refine eY (D:=(aW (T ++ nw U)).map mk2) kN (fun n s=>∃ R,s = gl (un R (N * M))/\R + n * (N * M) <= 1000 * (N * M)) _ ?_ FU ((aW (T ++ nw U)).map mk2) (gl 0) (by rw [List.length_map]; omega) (fun e he=>he) ⟨0,by rw [bA],by rw [Nat.zero_add,List.length_map]; exact Nat.mul_le_mul_right _ (by omega)⟩ fun l' hl' =>?_
 ·rintro n e J s ⟨R,rfl,hR⟩ he
  obtain ⟨d,hd,rfl⟩:=List.mem_map.1 he
  obtain ⟨fd,a,a1,a2⟩:=hall d hd
  rw [Nat.add_mul,Nat.one_mul] at hR
  have fR:FQ (un R (N * M)):=un_k l0 lL (by omega)
  have st:=ky fR fd
  refine ⟨?_,R + a,by rw [st,a2,ck],by omega⟩
  rw [st]
  obtain ⟨z,z1,z2⟩:=sideG d.2
  unfold bj gl
  simp only
  rw [show (mk2 d).2 = Rt d.2 from rfl,z1,ab]
  unfold bb
  by_cases c:0 < d.2
  ·rw [if_pos (z2.2 c),if_pos c,show (⟨⟨(Rt (un R (N * M))).fh.fc,(Rt (un R (N * M))).fh.fj⟩,⟨(Rt (un R (N * M))).fe.fc,(Rt (un R (N * M))).fe.fj⟩⟩:Tc) = Rt (un R (N * M)) from rfl,(im FU 8 _ _ fR.rf fd.rf (by decide) hF).1,ab]
  ·rw [if_neg (fun hc=>c (z2.1 hc)),if_neg c,Rat.add_zero]
 ·obtain ⟨l,hl,rfl⟩:=ox hl' _ rfl
  rw [(hb l hl).1]
  show ((ac_p FU (Rt (dsk T U K))).bind _) = _
  rw [pc hq,ab]
end Go.Proofs.YtkommhmbkbhmlaaGreat
namespace Go.Proofs.YtkommhmbkbhmlaaGreat
open Go
def sc (c:Rat) (T:List (Rat × Rat)):List (Rat × Rat):=T.map fun e=>(e.1,e.2 * c)
theorem sc_wt (c x:Rat):∀ T,wt x (sc c T) = wt x T * c
 | []=>by show (0:Rat) = 0 * c; grind
 | e :: l=>by
  show (if e.1 = x then e.2 * c else 0) + wt x (sc c l) = ((if e.1 = x then e.2 else 0) + wt x l) * c
  rw [sc_wt c x l]
  split <;> grind
theorem sc_sW (c:Rat):∀ T,sW (sc c T) = sW T * c
 | []=>by show (0:Rat) = 0 * c; grind
 | e :: l=>by
  show e.2 * c + sW (sc c l) = (e.2 + sW l) * c
  rw [sc_sW c l]; grind
theorem mS (c:Rat) (T:List (Rat × Rat)):(sc c T).map (·.1) = T.map (·.1):=by
 unfold sc
 rw [List.map_map]; rfl
theorem lv (c:Rat) (T:List (Rat × Rat)):(sc c T).length = T.length:=List.length_map ..
def ig (W:List (Rat × Rat)):List (Rat × Rat):=W.foldl (fun T e=>bD e.1 e.2 T) []
theorem oq (W:List (Rat × Rat)):Gat W (ig W)/\Up (ig W):=by
 suffices ∀ (l P D:List (Rat × Rat)),Gat P D -> Up D -> Gat (P ++ l) (l.foldl (fun T e=>bD e.1 e.2 T) D)/\Up (l.foldl (fun T e=>bD e.1 e.2 T) D) from this W [] [] Gat.nil List.Pairwise.nil
 intro l
 induction l with
 | nil=>intro P D h u; rw [List.append_nil]; exact ⟨h,u⟩
 | cons e l ih=>
  intro P D h u
  have:=ih (P ++ [e]) _ (h.put u e.1 e.2) (gJ e.1 e.2 u)
  rwa [List.append_assoc] at this
theorem Gat.sW {P D:List (Rat × Rat)} (h:Gat P D):Go.Proofs.YtkommhmbkbhmlaaGreat.sW D = Go.Proofs.YtkommhmbkbhmlaaGreat.sW P:=by
 have h1:=js h.nd
 rw [<- h1,show (fun x=>wt x D) = fun x=>wt x P from funext h.wts]
 suffices ∀ (P:List (Rat × Rat)) (K:List Rat),K.Nodup -> (∀ x ∈ P.map (·.1),x ∈ K) -> aS (fun x=>wt x P) K = Go.Proofs.YtkommhmbkbhmlaaGreat.sW P from this P _ h.nd fun x hx=>(h.keys x).2 hx
 intro P
 induction P with
 | nil=>exact fun K _ _=>eG fun x _=>rfl
 | cons e l ih=>
  intro K hK hs
  have e1:(fun x=>wt x (e :: l)) = fun x=>(if e.1 = x then e.2 else 0) + wt x l:=rfl
  rw [e1,ej,ih K hK fun x hx=>hs x (List.mem_cons_of_mem _ hx)]
  have h2:=gm (f:=fun x=>if e.1 = x then e.2 else 0) (K:=[e.1]) (L:=K) (by simp) hK (fun x hx=>by rw [List.mem_singleton.1 hx]; exact hs _ (List.mem_cons_self ..)) fun x _ hx=>if_neg fun hc=>hx (by rw [hc]; exact List.mem_singleton.2 rfl)
  rw [h2]
  show (if e.1 = e.1 then e.2 else 0) + 0 + _ = e.2 + _
  rw [if_pos rfl]; grind
structure Wd (N:Nat) (W:List (Rat × Rat)):Prop where
 pos:0 < N
 le:N <= 1000000
 key:∀ e ∈ W,Bt 40 40 e.1
 wts:∀ e ∈ W,∃ k,0 < k/\k <= N/\e.2 = un k N
 sum:sW W = 1
 len:W.length <= 400
theorem Wd.part {N:Nat} {W A B:List (Rat × Rat)} (h:Wd N W) (hp:(A ++ B).Perm W):∃ a,a <= N/\sW A = un a N/\(A ≠ [] -> 0 < a):=by
 obtain ⟨a,a1,a2⟩:=fU (N:=N) (A:=A) fun e he=>h.wts e (hp.mem_iff.1 (List.mem_append_left _ he))
 obtain ⟨b,b1,_⟩:=fU (N:=N) (A:=B) fun e he=>h.wts e (hp.mem_iff.1 (List.mem_append_right _ he))
 have hs:sW A + sW B = un N N:=by rw [<- eS,gN hp,h.sum,cX h.pos]
 have h2:un (a + b) N = un N N:=by rw [<- hs,a1,b1,ck]
 have h1:a + b <= N:=(dL h.pos).1 (h2 ▸ Rat.le_refl)
 exact ⟨a,by omega,a1,a2⟩
theorem Wd.atw {N:Nat} {W:List (Rat × Rat)} (h:Wd N W) (x:Rat) (i:Nat):∃ a,a <= N/\wt x (W.take i) = un a N/\(x ∈ (W.take i).map (·.1) -> 0 < a):=by
 obtain ⟨a,a1,a2,a3⟩:=h.part (iN (fun e=>decide (e.1 = x)) W i)
 refine ⟨a,a1,by rw [eA]; exact a2,fun hx=>a3 fun hc=>?_⟩
 obtain ⟨e,he,h1⟩:=List.mem_map.1 hx
 have h2:e ∈ (W.take i).filter fun e=>decide (e.1 = x):=List.mem_filter.2 ⟨he,decide_eq_true h1⟩
 rw [hc] at h2
 cases h2
theorem Wd.gath_fq {N:Nat} {W:List (Rat × Rat)} (h:Wd N W) (i:Nat):∀ e ∈ aW (W.take i),FQ e.1/\FQ e.2:=fun e he=>by
 obtain ⟨h1,h2⟩:=((dQ (W.take i)).mem e).1 he
 refine ⟨?_,?_⟩
 ·obtain ⟨d,hd,e1⟩:=List.mem_map.1 h1
  rw [<- e1]
  exact (h.key d (List.mem_of_mem_take hd)).k
 ·obtain ⟨a,a1,a2,_⟩:=h.atw e.1 i
  rw [h2,a2]
  exact jv h.pos h.le (Nat.le_trans a1 h.le)
theorem Wd.dw {N:Nat} {W Z:List (Rat × Rat)} (h:Wd N W) (g:Gat W Z) (u:Up Z):Dw N Z:=by
 refine ⟨u,fun e he=>?_,fun e he=>?_,by rw [g.sW,h.sum,cX h.pos],Nat.le_trans g.len h.len⟩
 ·obtain ⟨h1,_⟩:=(g.mem e).1 he
  obtain ⟨d,hd,e1⟩:=List.mem_map.1 h1
  rw [<- e1]; exact h.key d hd
 ·obtain ⟨h1,h2⟩:=(g.mem e).1 he
  obtain ⟨a,a1,a2,a3⟩:=h.atw e.1 W.length
  rw [List.take_length] at a2 a3
  exact ⟨a,a3 h1,a1,by rw [h2,a2]⟩
theorem Wd.ds {N:Nat} {W Z:List (Rat × Rat)} (h:Wd N W) (g:Gat W Z) (u:Up Z):Ds Z:=⟨N,h.pos,h.le,h.dw g u⟩
theorem Dn.toDw {N:Nat} {T:List (Rat × Rat)} (h:Dn N N T) (hN:N <= 8):Dw N T:=
 ⟨h.up,fun e he=>(h.key e he).bt.mono (by decide) (by decide),h.wts,h.sum,by have:=h.len; omega⟩
theorem un_mm (a b c d:Nat):un a b * un c d = un (a * c) (b * d):=by
 unfold un
 rw [Rat.divInt_mul_divInt,Int.natCast_mul,Int.natCast_mul]
def kn (u:Rat) (T U:List (Rat × Rat)):List (Rat × Rat):=(if 1 - u = 0 then [] else sc (1 - u) T) ++ (if u = 0 then [] else sc u U)
theorem mixW_wt (u x:Rat) (T U:List (Rat × Rat)):wt x (kn u T U) = (1 - u) * wt x T + u * wt x U:=by
 unfold kn
 rw [gh]
 have h0:wt x [] = 0:=rfl
 split <;> split <;> simp only [sc_wt,h0] <;> grind
theorem mixW_sW (u:Rat) {T U:List (Rat × Rat)} (h:sW T = 1) (k:sW U = 1):sW (kn u T U) = 1:=by
 unfold kn
 rw [eS]
 have h0:sW [] = 0:=rfl
 split <;> split <;> simp only [sc_sW,h0,h,k] <;> grind
theorem sc_un {N b k:Nat} {T:List (Rat × Rat)} {c:Rat} (hT:∀ e ∈ T,∃ k,0 < k/\k <= N/\e.2 = un k N) (hc:c = un k b) (k0:0 < k) (kb:k <= b):∀ e ∈ sc c T,∃ m,0 < m/\m <= N * b/\e.2 = un m (N * b):=fun e he=>by
 obtain ⟨d,hd,rfl⟩:=List.mem_map.1 he
 obtain ⟨l,l0,l1,l2⟩:=hT d hd
 exact ⟨l * k,Nat.mul_pos l0 k0,Nat.mul_le_mul l1 kb,by show d.2 * c = _; rw [l2,hc,un_mm]⟩
theorem mixW_wd {N M a b:Nat} {T U:List (Rat × Rat)} {u:Rat} (h:Dn N N T) (k:Dn M M U) (hN:N <= 8) (hM:M <= 8) (h0:0 < N) (k0:0 < M) (hu:u = un a b) (hab:a <= b) (b0:0 < b) (hb:b <= 24):Wd (N * M * b) (kn u T U):=by
 have e1:1 - u = un (b - a) b:=by
  have:=ck (b - a) a b
  rw [Nat.sub_add_cancel hab,cX b0,<- hu] at this
  grind
 have g1:=(h.toDw hN).sum
 have g2:=(k.toDw hM).sum
 rw [cX h0] at g1
 rw [cX k0] at g2
 have l1:=h.len
 have l2:=k.len
 have hle:N * M * b <= 8 * 8 * 24:=Nat.mul_le_mul (Nat.mul_le_mul hN hM) hb
 have hm:∀ e ∈ kn u T U,(1 - u ≠ 0/\e ∈ sc (1 - u) T) ∨ (u ≠ 0/\e ∈ sc u U):=fun e he=>by
  unfold kn at he
  rcases List.mem_append.1 he with he | he
  ·split at he
   ·cases he
   ·exact .inl ⟨by assumption,he⟩
  ·split at he
   ·cases he
   ·exact .inr ⟨by assumption,he⟩
 refine ⟨Nat.mul_pos (Nat.mul_pos h0 k0) b0,by omega,fun e he=>?_,fun e he=>?_,mixW_sW u g1 g2,?_⟩
 ·rcases hm e he with ⟨_,he⟩ | ⟨_,he⟩
  ·obtain ⟨d,hd,rfl⟩:=List.mem_map.1 he
   exact (h.toDw hN).key d hd
  ·obtain ⟨d,hd,rfl⟩:=List.mem_map.1 he
   exact (k.toDw hM).key d hd
 ·rcases hm e he with ⟨hn,he⟩ | ⟨hn,he⟩
  ·have hk:0 < b - a:=Nat.pos_of_ne_zero fun hc=>hn (by rw [e1,hc,bA])
   obtain ⟨m,m0,m1,m2⟩:=sc_un h.wts e1 hk (Nat.sub_le _ _) e he
   refine ⟨m * M,Nat.mul_pos m0 k0,?_,?_⟩
   ·rw [Nat.mul_right_comm]
    exact Nat.mul_le_mul_right _ m1
   ·rw [m2,Nat.mul_right_comm N M b,gg k0]
  ·have hk:0 < a:=Nat.pos_of_ne_zero fun hc=>hn (by rw [hu,hc,bA])
   obtain ⟨m,m0,m1,m2⟩:=sc_un k.wts hu hk hab e he
   refine ⟨m * N,Nat.mul_pos m0 h0,?_,?_⟩
   ·rw [Nat.mul_comm N M,Nat.mul_right_comm]
    exact Nat.mul_le_mul_right _ m1
   ·rw [m2,Nat.mul_comm N M,Nat.mul_right_comm M N b,gg h0]
 ·unfold kn
  rw [List.length_append]
  have:(if 1 - u = 0 then [] else sc (1 - u) T).length <= 8:=by
   split
   ·exact Nat.zero_le _
   ·rw [lv]; omega
  have:(if u = 0 then [] else sc u U).length <= 8:=by
   split
   ·exact Nat.zero_le _
   ·rw [lv]; omega
  omega
def wp (w:Rat) (T:List (Rat × Rat)):List (Rat × Rat):=if w = 0 then [] else sc w T
def bQ:List (List (Rat × Rat)) -> List Rat -> List (Rat × Rat)
 | T :: L,w :: ws=>wp w T ++ bQ L ws
 | _,_=>[]
theorem iw:∀ {L:List (List (Rat × Rat))} {ws:List Rat} (M:List (List (Rat × Rat))) (vs:List Rat),L.length = ws.length -> bQ (L ++ M) (ws ++ vs) = bQ L ws ++ bQ M vs
 | [],[],_,_,_=>rfl
 | T :: L,w :: ws,M,vs,h=>by
  show wp w T ++ bQ (L ++ M) (ws ++ vs) = wp w T ++ bQ L ws ++ bQ M vs
  rw [iw M vs (by simpa using h),List.append_assoc]
theorem na {L:List (List (Rat × Rat))} {ws:List Rat} (h:L.length = ws.length) {i:Nat} (hi:i < L.length) (hj:i < ws.length):bQ (L.take (i + 1)) (ws.take (i + 1)) = bQ (L.take i) (ws.take i) ++ wp ws[i] L[i]:=by
 rw [List.take_succ_eq_append_getElem hi,List.take_succ_eq_append_getElem hj,iw _ _ (by rw [List.length_take,List.length_take]; omega)]
 show _ ++ (wp ws[i] L[i] ++ []) = _
 rw [List.append_nil]
theorem lQ {L:List (List (Rat × Rat))} {ws:List Rat} (h:L.length = ws.length) (i:Nat):bQ L ws = bQ (L.take i) (ws.take i) ++ bQ (L.drop i) (ws.drop i):=by
 conv=>lhs; rw [<- List.take_append_drop i L,<- List.take_append_drop i ws]
 rw [iw _ _ (by rw [List.length_take,List.length_take]; omega)]
theorem Wd.pre {N:Nat} {W A B:List (Rat × Rat)} (h:Wd N W) (e:W = A ++ B):∀ d ∈ aW A,FQ d.1/\FQ d.2:=by
 have:=h.gath_fq A.length
 rwa [e,List.take_left] at this
theorem Wd.fq {N:Nat} {W:List (Rat × Rat)} (h:Wd N W):∀ e ∈ W,FQ e.1/\FQ e.2:=fun e he=>by
 obtain ⟨k,k1,k2,k3⟩:=h.wts e he
 exact ⟨(h.key e he).k,by rw [k3]; exact jv h.pos h.le (Nat.le_trans k2 h.le)⟩
theorem oB (u:Rat) (T U:List (Rat × Rat)):kn u T U = bQ [T,U] [1 - u,u]:=by
 show _ = wp (1 - u) T ++ (wp u U ++ [])
 rw [List.append_nil]; rfl
end Go.Proofs.YtkommhmbkbhmlaaGreat
namespace Go.Proofs.YtkommhmbkbhmlaaGreat
open Go
theorem Dw.wt0 {N:Nat} {T:List (Rat × Rat)} (h:Dw N T) (h0:0 < N) (x:Rat):0 <= wt x T:=by
 obtain ⟨k,k1,k2⟩:=Ds.wt_un h h0 x
 rw [k2,<- bA N]
 exact (dL h0).2 (Nat.zero_le _)
theorem dk_un {N M:Nat} {T U:List (Rat × Rat)} (h:Dw N T) (k:Dw M U) (h0:0 < N) (k0:0 < M):∀ K,∃ R,dsk T U K = un R (N * M)
 | []=>⟨0,(bA _).symm⟩
 | x :: K=>by
  obtain ⟨R,hR⟩:=dk_un h k h0 k0 K
  obtain ⟨a,a1,a2⟩:=Ds.wt_un h h0 x
  obtain ⟨b,b1,b2⟩:=Ds.wt_un k k0 x
  refine ⟨(a * M - b * N) + R,?_⟩
  show bb (wt x T - wt x U) + dsk T U K = _
  rw [hR,a2,b2,<- gg (k:=a) (N:=N) k0,<- gg (k:=b) (N:=M) h0,Nat.mul_comm M N,mF _ _ (Nat.mul_pos h0 k0),ck]
theorem oN {N M:Nat} {T U:List (Rat × Rat)} {K:List Rat} (h:Dw N T) (k:Dw M U) (h0:0 < N) (k0:0 < M) (hN:N <= 8) (hM:M <= 8) (c:Cov T K):Bt 10 10 (dsk T U K)/\dsk T U K <= 1:=by
 obtain ⟨R,hR⟩:=dk_un h k h0 k0 K
 have h1:=dk_one c (h.wt0 h0) (k.wt0 k0)
 have hp:0 < N * M:=Nat.mul_pos h0 k0
 rw [h.sum,cX h0] at h1
 have h2:=h1
 rw [hR,<- cX hp,dL hp] at h2
 have hl:N * M <= 8 * 8:=Nat.mul_le_mul hN hM
 refine ⟨?_,h1⟩
 rw [hR]
 exact Bt.of (by omega) (by omega) (by omega)
theorem dk_same {T U:List (Rat × Rat)} {K:List Rat} (h:Ds T) (k:Ds U) (cT:Cov T K) (cU:Cov U K):dsk T U K = 0 ↔ T = U:=by
 constructor
 ·intro hz
  have hs:dsk U T K = 0:=by rw [<- mV cT cU (by rw [h.one,k.one]),hz]
  have a:=ki hz
  have b:=ki hs
  have hw:∀ x,wt x U = wt x T:=fun x=>by
   by_cases c:x ∈ K
   ·exact Rat.le_antisymm (b x c) (a x c)
   ·rw [bU fun hc=>c (cU.sub x hc),bU fun hc=>c (cT.sub x hc)]
  have key:∀ {A B:List (Rat × Rat)},Ds A -> (∀ x,wt x A = wt x B) -> ∀ x,x ∈ A.map (·.1) -> x ∈ B.map (·.1):=fun {A B} hA hw x hx=>by
   obtain ⟨e,he,rfl⟩:=List.mem_map.1 hx
   refine Classical.byContradiction fun hc=>?_
   have h1:=hw e.1
   rw [dX hA.up.nodup he,bU hc] at h1
   have:=hA.pos e he
   grind
  have hk:∀ x,x ∈ U.map (·.1) ↔ x ∈ T.map (·.1):=fun x=>⟨key k hw x,key h (fun x=>(hw x).symm) x⟩
  have hp:=((List.perm_ext_iff_of_nodup k.up.nodup h.up.nodup).2 hk).length_eq
  rw [List.length_map,List.length_map] at hp
  exact (Gat.self h.up.nodup).one ⟨k.up.nodup,hk,hw,Nat.le_of_eq hp⟩ h.up k.up
 ·rintro rfl
  rw [cj]
  refine eG fun x _=>?_
  unfold bb
  rw [if_neg (by grind)]
end Go.Proofs.YtkommhmbkbhmlaaGreat
namespace Go.Proofs.YtkommhmbkbhmlaaGreat
open Go
set_option maxRecDepth 8000
theorem askedL {L:List (List (Rat × Rat))} {l:List Rat} (h:∀ T ∈ L,Ds T) (k:∀ x ∈ l,FQ x) (hL:L.length < 1000) (hl:l.length < 1000):ak_p FU (L.map fun T=>T.map ms) (l.map Sg) = some 0:=by
 have hF:=aI
 have h3:=ay (B:=ak_l3 FU (L.map fun T=>T.map ms) (l.map Sg)) (fun i:Nat=>L.length - i) (fun i=>i <= L.length) (fun r=>r = .inr ()) ?_ FU 0 (Nat.zero_le _) (by omega)
 ·have h2:=ay (B:=ak_l2 FU (l.map Sg)) (fun i:Nat=>l.length - i) (fun i=>i <= l.length) (fun r=>r = .inr ()) ?_ FU 0 (Nat.zero_le _) (by omega)
  ·obtain ⟨r,e3,rfl⟩:=h3
   obtain ⟨r,e2,rfl⟩:=h2
   unfold ak_p
   rw [e3]
   show (if (0:Int) <= -1 then some (50:Int) else _) = _
   rw [if_neg (by decide),e2]; rfl
  ·intro i J hi hJ
   unfold ak_l2 cj_p
   simp only
   by_cases c:i < l.length
   ·rw [if_pos (by simpa using c),geE (by simpa using c),ab,List.getElem_map,kl FU _ (k _ (List.getElem_mem c)) hF]
    exact hJ (i + 1) c (by omega)
   ·rw [if_neg (by simpa using c)]
    exact ⟨_,rfl,rfl⟩
 ·intro i J hi hJ
  unfold ak_l3 bR_p
  simp only
  by_cases c:i < L.length
  ·rw [if_pos (by simpa using c),geE (by simpa using c),ab,List.getElem_map,jT (h _ (List.getElem_mem c))]
   exact hJ (i + 1) c (by omega)
  ·rw [if_neg (by simpa using c)]
   exact ⟨_,rfl,rfl⟩
theorem nJ (A:List (Rat × Rat)) (e:Rat × Rat):aW (A ++ [e]) = iT (aW A) e:=by
 unfold aW
 rw [List.foldl_append]; rfl
theorem mixL {T W A B:List (Rat × Rat)} {w:Rat} {N:Nat} (hW:Wd N W) (e:W = A ++ (sc w T ++ B)) (hT:Ds T) (hw:FQ w):ap (aA_l4 FU (T.map ms) (Rt w)) FU (0,(aW A).map mk2) = some ((aW (A ++ sc w T)).map mk2):=by
 have hF:=aI
 obtain ⟨l1,l2⟩:=hT.len
 have hs:=lv w T
 have hh:=ay (B:=aA_l4 FU (T.map ms) (Rt w)) (fun s=>T.length - s.1) (fun s=>∃ i,i <= T.length/\s = (i,(aW (A ++ (sc w T).take i)).map mk2)) (fun r=>r = (aW (A ++ sc w T)).map mk2) ?_ FU (0,(aW A).map mk2) ⟨0,Nat.zero_le _,by rw [List.take_zero,List.append_nil]⟩ (by simp only; omega)
 ·obtain ⟨r,e,rfl⟩:=hh
  exact e
 ·rintro s J ⟨i,hi,rfl⟩ hJ
  unfold aA_l4
  simp only
  by_cases c:i < T.length
  ·have f:=hT.fq _ (List.getElem_mem c)
   have hin:(sc w T)[i]'(by omega) = (T[i].1,T[i].2 * w):=by unfold sc; rw [List.getElem_map]
   have g:=(hW.fq (T[i].1,T[i].2 * w) (by
    rw [e,<- hin]
    exact List.mem_append_right _ (List.mem_append_left _ (List.getElem_mem _)))).2
   have hd:=hW.pre (A:=A ++ (sc w T).take i) (B:=(sc w T).drop i ++ B) (by
    rw [e,List.append_assoc,<- List.append_assoc (List.take i _),List.take_append_drop])
   rw [if_pos (by simpa using c),geE (by simpa using c),ab,List.getElem_map,pG f.2,ab,(oJ FU 8 _ _ f.2.rf hw.rf (by decide) hF).1,ab,show (ms T[i]).fl = Sg T[i].1 from rfl]
   rw [lG f.1 g hd (fun D=>J (i + 1,D))]
   refine hJ _ ⟨i + 1,c,?_⟩ (by simp only; omega)
   rw [List.take_succ_eq_append_getElem (by omega),hin,<- List.append_assoc,nJ]
  ·rw [if_neg (by simpa using c)]
   refine ⟨_,rfl,?_⟩
   rw [List.take_of_length_le (by omega)]
def sq (l:List Rat):Rat:=aS (fun x=>x) l
theorem sq_take {l:List Rat} {i:Nat} (h:i < l.length):sq (l.take (i + 1)) = sq (l.take i) + l[i]:=by
 unfold sq
 rw [List.take_succ_eq_append_getElem h,iu]
 show _ + (l[i] + 0) = _
 grind
theorem pl (q:Rat):q.num.sign = 0 ↔ q = 0:=by rw [Int.sign_eq_zero_iff_zero,Rat.num_eq_zero]
theorem sign_n {q:Rat} (h:0 <= q):¬ q.num.sign < 0:=by
 have:=Rat.num_nonneg.2 h
 rw [Int.sign_neg_iff]; omega
theorem mixG {L:List (List (Rat × Rat))} {ws:List Rat} {N:Nat} (hL:∀ T ∈ L,Ds T) (hw:∀ w ∈ ws,FQ w/\0 <= w) (hps:∀ i,FQ (sq (ws.take i))) (hsum:sq ws = 1) (hl:L.length = ws.length) (h40:ws.length <= 40) (hW:Wd N (bQ L ws)) :
  aA_p FU (L.map fun T=>T.map ms) (ws.map Sg) = some ((ig (bQ L ws)).map ms,0):=by
 have hF:=aI
 have e7:=ay (B:=aA_l7 FU (ws.map Sg) (L.map fun T=>T.map ms)) (fun i:Nat=>ws.length - i) (fun i=>i <= ws.length) (fun r=>r = .inr ()) ?_ FU 0 (Nat.zero_le _) (by omega)
 ·have e6:=ay (B:=aA_l6 FU (ws.map Sg)) (fun s=>ws.length - s.1) (fun s=>∃ i,i <= ws.length/\s = (i,(Rt (sq (ws.take i))).fh.fc,(Rt (sq (ws.take i))).fh.fj,(Rt (sq (ws.take i))).fe.fc,(Rt (sq (ws.take i))).fe.fj))
   (fun r=>r = ((Rt 1).fh.fc,(Rt 1).fh.fj,(Rt 1).fe.fc,(Rt 1).fe.fj)) ?_ FU (0,(Rt 0).fh.fc,(Rt 0).fh.fj,(Rt 0).fe.fc,(Rt 0).fe.fj) ⟨0,Nat.zero_le _,rfl⟩ (by simp only; omega)
  ·have e5:=ay (B:=aA_l5 FU (L.map fun T=>T.map ms) (ws.map Sg)) (fun s=>L.length - s.1) (fun s=>∃ i,i <= L.length/\s = (i,(aW (bQ (L.take i) (ws.take i))).map mk2)) (fun r=>r = (aW (bQ L ws)).map mk2) ?_ FU (0,[]) ⟨0,Nat.zero_le _,rfl⟩ (by simp only; omega)
   ·obtain ⟨r,e7,rfl⟩:=e7
    obtain ⟨r,e6,rfl⟩:=e6
    obtain ⟨r,e5,rfl⟩:=e5
    have g:=dQ (bQ L ws)
    have hlen:=Nat.le_trans g.len hW.len
    have hfq:=hW.pre (A:=bQ L ws) (B:=[]) (List.append_nil _).symm
    obtain ⟨c1,c2⟩:=oq (bQ L ws)
    unfold aA_p
    rw [if_neg (by simp only [List.length_map]; omega),if_neg (by simp only [List.length_map]; omega),askedL hL (fun x hx=>(hw x hx).1) (by omega) (by omega),ab,if_pos rfl,if_pos (by simp only [List.length_map]; exact hl),e7]
    show (if (0:Int) <= -1 then some (([]:List Tb),(2:Int)) else _) = _
    rw [if_neg (show ¬ (0:Int) <= -1 by decide),oM,ab,e6,ab]
    simp only
    rw [from1,ab,show (⟨⟨(Rt 1).fh.fc,(Rt 1).fh.fj⟩,⟨(Rt 1).fe.fc,(Rt 1).fe.fj⟩⟩:Tc) = Rt 1 from rfl,mL FQ1 FQ1,ab,if_pos (fA.2 rfl),e5,ab]
    rw [if_neg (show ¬ 400 < ((aW (bQ L ws)).map mk2).length by rw [List.length_map]; omega)]
    exact gatherG (fun xs=>rfl) (fun e J xs=>rfl) hfq g.nd c2 (c1.perm2 g) (by omega)
   ·rintro s J ⟨i,hi,rfl⟩ hJ
    unfold aA_l5
    simp only
    by_cases c:i < L.length
    ·have cw:i < ws.length:=by omega
     obtain ⟨fw,w0⟩:=hw _ (List.getElem_mem cw)
     have ht:=na hl c cw
     rw [if_pos (by simpa using c),geE (by simpa using c),ab,geE (by simpa using cw),ab,List.getElem_map,List.getElem_map,bq FU _ fw (by omega),ab,show (Rt ws[i]).fh = Go.Proofs.YtkommhmbkbhmlaaGreat.L ws[i].num from rfl,cL,ab]
     by_cases cz:ws[i] = 0
     ·rw [if_pos ((pl _).2 cz)]
      refine hJ _ ⟨i + 1,c,?_⟩ (by simp only; omega)
      rw [ht]
      unfold wp
      rw [if_pos cz,List.append_nil]
     ·have hsp:=lQ hl (i + 1)
      rw [ht] at hsp
      have hwp:wp ws[i] L[i] = sc ws[i] L[i]:=if_neg cz
      rw [hwp] at ht hsp
      rw [if_neg fun hc=>cz ((pl _).1 hc),mixL hW (by rw [hsp,List.append_assoc]) (hL _ (List.getElem_mem c)) fw,ab]
      refine hJ _ ⟨i + 1,c,?_⟩ (by simp only; omega)
      rw [ht]
    ·rw [if_neg (by simpa using c)]
     refine ⟨_,rfl,?_⟩
     rw [List.take_of_length_le (by omega),List.take_of_length_le (by omega)]
  ·rintro s J ⟨i,hi,rfl⟩ hJ
   unfold aA_l6
   simp only
   by_cases c:i < ws.length
   ·have fw:=(hw _ (List.getElem_mem c)).1
    rw [if_pos (by simpa using c),geE (by simpa using c),ab,List.getElem_map,bq FU _ fw (by omega),ab]
    rw [show (⟨⟨(Rt (sq (ws.take i))).fh.fc,(Rt (sq (ws.take i))).fh.fj⟩,⟨(Rt (sq (ws.take i))).fe.fc,(Rt (sq (ws.take i))).fe.fj⟩⟩:Tc) = Rt (sq (ws.take i)) from rfl,(im FU 8 _ _ (hps i).rf fw.rf (by decide) hF).1,ab,<- sq_take c]
    exact hJ _ ⟨i + 1,c,rfl⟩ (by simp only; omega)
   ·rw [if_neg (by simpa using c)]
    refine ⟨_,rfl,?_⟩
    rw [List.take_of_length_le (by omega),hsum]
 ·intro i J hi hJ
  unfold aA_l7 cL_p
  simp only
  by_cases c:i < ws.length
  ·obtain ⟨fw,w0⟩:=hw _ (List.getElem_mem c)
   rw [if_pos (by simpa using c),geE (by simpa using c),ab,List.getElem_map,bq FU _ fw (by omega),ab,show (Rt ws[i]).fh = Go.Proofs.YtkommhmbkbhmlaaGreat.L ws[i].num from rfl,cL,ab,ab,if_neg (by rw [decide_eq_true_iff]; exact sign_n w0)]
   exact hJ (i + 1) c (by omega)
  ·rw [if_neg (by simpa using c)]
   exact ⟨_,rfl,rfl⟩
theorem ms_inj {a b:Rat × Rat} (ha:FQ a.1/\FQ a.2) (hb:FQ b.1/\FQ b.2):ms a = ms b ↔ a = b:=by
 refine ⟨fun h=>?_,fun h=>by rw [h]⟩
 have h1:Sg a.1 = Sg b.1:=congrArg Tb.fl h
 have h2:Sg a.2 = Sg b.2:=congrArg Tb.fP h
 exact Prod.ext (iE ha.1 hb.1 h1) (iE ha.2 hb.2 h2)
theorem sameD {T U:List (Rat × Rat)} (hT:∀ e ∈ T,FQ e.1/\FQ e.2) (hU:∀ e ∈ U,FQ e.1/\FQ e.2) (hl:T.length < 1000):bQ_p FU (T.map ms) (U.map ms) = some (decide (T = U)):=by
 have hF:=aI
 unfold bQ_p
 by_cases h0:T.length = U.length
 ·have hh:=ay (B:=bQ_l1 FU (T.map ms) (U.map ms)) (fun i:Nat=>T.length - i) (fun i=>i <= T.length/\T.take i = U.take i) (fun r=>thn (some r) (fun _=>some true) = some (decide (T = U))) ?_ FU 0 ⟨Nat.zero_le _,rfl⟩ (by omega)
  ·obtain ⟨r,e,e2⟩:=hh
   rw [if_pos (by simpa using h0),e,e2]
  ·rintro i J ⟨hi,ht⟩ hJ
   unfold bQ_l1 cK_p
   simp only
   by_cases c:i < T.length
   ·have cu:i < U.length:=by omega
    rw [if_pos (by simpa using c),geE (by simpa using c),ab,geE (by simpa using cu),ab,List.getElem_map,List.getElem_map,ab]
    by_cases ce:T[i] = U[i]
    ·rw [if_pos (by rw [ce]; exact decide_eq_true rfl)]
     exact hJ (i + 1) ⟨c,by rw [List.take_succ_eq_append_getElem c,List.take_succ_eq_append_getElem cu,ht,ce]⟩ (by omega)
    ·rw [if_neg (by rw [decide_eq_true_iff,ms_inj (hT _ (List.getElem_mem c)) (hU _ (List.getElem_mem cu))]; exact ce)]
     refine ⟨_,rfl,?_⟩
     rw [decide_eq_false fun hc=>ce (by simp only [hc])]; rfl
   ·rw [if_neg (by simpa using c)]
    refine ⟨_,rfl,?_⟩
    rw [List.take_of_length_le (by omega),List.take_of_length_le (by omega)] at ht
    rw [decide_eq_true ht]; rfl
 ·rw [if_neg (by simpa using h0),decide_eq_false fun hc=>h0 (by rw [hc])]
end Go.Proofs.YtkommhmbkbhmlaaGreat
namespace Go.Proofs.YtkommhmbkbhmlaaGreat
open Go
set_option maxRecDepth 8000
theorem ou:bZ_p FU = some true:=by kernel_rfl
theorem qG {a b:Int} (h0:b ≠ 0) (ha:Sm a) (hb:Sm b):ae_p FU a b = some (Sg (Rat.divInt a b)):=by
 unfold ae_p
 rw [sof h0 ha hb,ab]
theorem q0:ae_p FU 0 1 = some (Sg 0):=qG (by decide) (by unfold Sm; decide) (by unfold Sm; decide)
theorem q1:ae_p FU 1 1 = some (Sg 1):=qG (by decide) (by unfold Sm; decide) (by unfold Sm; decide)
theorem addD {a b:Rat} (ha:FQ a) (hb:FQ b) (h:FQ (a + b)):cM_p FU (Sg a) (Sg b) = some (Sg (a + b),0):=add_q ha hb h aI
theorem cmpD {a b:Rat} (ha:FQ a) (hb:FQ b):cm_p FU (Sg a) (Sg b) = some (sgn a b,0):=cmpG ha hb
theorem jW {a b:Rat} (h:a <= b):¬ 0 < sgn a b:=fun hc=>by
 have:=jS.1 hc
 grind
theorem gC (a0 a1 a2:Ti) (a3:Th):bp_p FU a0 a1 a2 a3 = some true:=by
 have hF:=aI
 obtain ⟨N,T,e1,n0,n8,dT⟩:=jU a0
 obtain ⟨M,U,e2,m0,m8,dU⟩:=jU a1
 obtain ⟨P,V,e3,p0,p8,dV⟩:=jU a2
 obtain ⟨u,e4,hu⟩:=unitD a3
 have hT:=dT.dw n0 n8
 have hU:=dU.dw m0 m8
 have hV:=dV.dw p0 p8
 have gK:=dQ (T ++ U ++ V)
 have hk:∀ x,x ∈ (aW (T ++ U ++ V)).map (·.1) ↔ (x ∈ T.map (·.1) ∨ x ∈ U.map (·.1)) ∨ x ∈ V.map (·.1):=fun x=>by
  rw [gK.keys,List.map_append,List.map_append,List.mem_append,List.mem_append]
 have nK:=gK.nd
 generalize (aW (T ++ U ++ V)).map (·.1) = K at hk nK
 have cT:Cov T K:=⟨hT.up.nodup,nK,fun x hx=>(hk x).2 (.inl (.inl hx))⟩
 have cU:Cov U K:=⟨hU.up.nodup,nK,fun x hx=>(hk x).2 (.inl (.inr hx))⟩
 have cV:Cov V K:=⟨hV.up.nodup,nK,fun x hx=>(hk x).2 (.inr hx)⟩
 obtain ⟨d1,f1⟩:=kY hT hU cT cU
 obtain ⟨d2,f2⟩:=kY hU hT cU cT
 obtain ⟨d3,f3⟩:=kY hT hV cT cV
 obtain ⟨d4,f4⟩:=kY hV hU cV cU
 have hsw:=mV cT cU (by rw [hT.one,hU.one])
 obtain ⟨b1,le1⟩:=oN (dT.toDw n8) (dU.toDw m8) n0 m0 n8 m8 cT
 obtain ⟨b3,_⟩:=oN (dT.toDw n8) (dV.toDw p8) n0 p0 n8 p8 cT
 obtain ⟨b4,_⟩:=oN (dV.toDw p8) (dU.toDw m8) p0 m0 p8 m8 cV
 have fw:FQ (dsk T V K + dsk V U K):=(Bt.add (i:=21) b3 b4 (by decide) (by decide)).fq (by decide) (by decide)
 have htri:=dk_tri T U V K
 have hz:=dk_same hT hU cT cU
 have fu:=hu.bt.q
 obtain ⟨u0,u1⟩:=hu.le
 have bu:Bt 16 6 (1 - u):=Bt.sub (i1:=1) (j1:=1) ⟨by decide,by decide⟩ hu.bt (by decide) (by decide)
 have fu1:FQ (1 - u):=bu.fq (by decide) (by decide)
 obtain ⟨a,b,hab,h0,h1,h2,h3⟩:=hu
 have hW:=mixW_wd (a:=a.toNat) (b:=b.toNat) (u:=u) dT dU n8 m8 n0 m0 (by rw [hab]; unfold un; congr 1 <;> omega) (by omega) (by omega) (by omega)
 have hwt:=mixW_wt u (T:=T) (U:=U)
 rw [oB] at hW
 have em:aA_p FU [T.map ms,U.map ms] [Sg (1 - u),Sg u] = some ((ig (bQ [T,U] [1 - u,u])).map ms,0):=by
  refine mixG (L:=[T,U]) (ws:=[1 - u,u]) (fun X hX=>?_) (fun w hw=>?_) (fun i=>?_) ?_ rfl (by simp) hW
  ·rcases List.mem_cons.1 hX with rfl | hX
   ·exact hT
   ·rw [List.mem_singleton.1 hX]; exact hU
  ·rcases List.mem_cons.1 hw with rfl | hw
   ·exact ⟨fu1,by grind⟩
   ·rw [List.mem_singleton.1 hw]; exact ⟨fu,u0⟩
  ·match i with
   | 0=>exact FQ0
   | 1=>
    show FQ (1 - u + 0)
    rw [Rat.add_zero]; exact fu1
   | n + 2=>
    rw [List.take_of_length_le (by simp)]
    show FQ (1 - u + (u + 0))
    rw [show 1 - u + (u + 0) = 1 from by grind]; exact FQ1
  ·show 1 - u + (u + 0) = 1
   grind
 obtain ⟨g1,g2⟩:=oq (bQ [T,U] [1 - u,u])
 have hZ:=hW.ds g1 g2
 have hzw:∀ x,wt x (ig (bQ [T,U] [1 - u,u])) = (1 - u) * wt x T + u * wt x U:=fun x=>by rw [g1.wts,<- oB,hwt]
 have hzk:∀ x ∈ (ig (bQ [T,U] [1 - u,u])).map (·.1),x ∈ K:=fun x hx=>by
  have h5:=(g1.keys x).1 hx
  have h6:bQ [T,U] [1 - u,u] = wp (1 - u) T ++ (wp u U ++ []):=rfl
  rw [h6,List.append_nil,List.map_append,List.mem_append] at h5
  rcases h5 with h5 | h5
  ·refine (hk x).2 (.inl (.inl ?_))
   unfold wp at h5
   split at h5
   ·cases h5
   ·rwa [mS] at h5
  ·refine (hk x).2 (.inl (.inr ?_))
   unfold wp at h5
   split at h5
   ·cases h5
   ·rwa [mS] at h5
 generalize ig (bQ [T,U] [1 - u,u]) = Z at *
 have cZ:Cov Z K:=⟨hZ.up.nodup,nK,hzk⟩
 obtain ⟨d5,f5⟩:=kY hT hZ cT cZ
 have hmx:=dk_mix (K:=K) u0 hzw
 rw [hmx] at d5 f5
 have n1:=gu T U K
 unfold bp_p jn
 rw [ou,ab,if_pos rfl,e1,ab,e2,ab,e3,ab,d1,ab,d2,ab,d3,ab,d4,ab]
 simp only
 rw [addD f3 f4 fw,ab]
 simp only
 rw [if_pos trivial,if_pos trivial,if_pos trivial,if_pos trivial,if_pos trivial,if_pos (by rw [hsw]),q0,ab,sameD hT.fq hU.fq (by have:=hT.len; omega),ab]
 rw [show decide (Sg (dsk T U K) = Sg 0) = decide (T = U) from decide_eq_decide.2 ⟨fun h=>hz.1 (iE f1 FQ0 h),fun h=>by rw [hz.2 h]⟩]
 rw [if_neg (by simp),e4,ab,q1,ab,sub_q FQ1 fu fu1 hF,ab]
 simp only
 rw [em,ab]
 simp only
 rw [d5,ab]
 simp only
 rw [if_pos trivial,if_pos trivial,if_pos trivial,jT hZ,ab,if_pos rfl,ab,ab,cmpD FQ0 f1,ab]
 simp only
 rw [if_pos trivial,if_neg (jW n1),cmpD f1 FQ1,ab]
 simp only
 rw [if_pos trivial,if_neg (jW le1),cmpD f1 fw,ab]
 simp only
 rw [if_pos trivial,if_neg (jW htri),cmpD f5 fu,ab]
 simp only
 rw [if_pos trivial,if_neg (jW (by
  have:u * dsk T U K <= u * 1:=Rat.mul_le_mul_of_nonneg_left le1 u0
  grind)),mul_q fu f1 f5 hF,ab]
 simp only
 rw [if_pos trivial]; rfl
theorem gD (a0 a1 a2:Ti) (a3:Th):∃ n,bp_p n a0 a1 a2 a3 = some true:=⟨FU,gC a0 a1 a2 a3⟩
end Go.Proofs.YtkommhmbkbhmlaaGreat
