/- Plain law: the program's distance is the distance. No program in sight but the printed functions. -/
import Derived.Test.YtkommhmbkbhmlaaGreatVTAk
namespace Go.Proofs.YtkommhmbkbhmlaaGreat
open Go
set_option maxRecDepth 8000
theorem un_mul {k N M:Nat} (hM:0 < M):un (k * M) (N * M) = un k N:=by
 unfold un
 rw [Int.natCast_mul,Int.natCast_mul]
 exact Rat.divInt_mul_right (by omega)
def fV (q:Rat):Bool × List UInt64 × Bool × List UInt64:=((Rt q).fh.fc,(Rt q).fh.fj,(Rt q).fe.fc,(Rt q).fe.fj)
end Go.Proofs.YtkommhmbkbhmlaaGreat
namespace Go.Proofs.YtkommhmbkbhmlaaGreat
open Go
def sc (c:Rat) (T:List (Rat × Rat)):List (Rat × Rat):=T.map fun e=>(e.1,e.2 * c)
theorem sc_len (c:Rat) (T:List (Rat × Rat)):(sc c T).length = T.length:=List.length_map ..
def fS (W:List (Rat × Rat)):List (Rat × Rat):=W.foldl (fun T e=>dE e.1 e.2 T) []
theorem gk (W:List (Rat × Rat)):Gat W (fS W)/\Up (fS W):=by
 suffices ∀ (l P D:List (Rat × Rat)),Gat P D -> Up D -> Gat (P ++ l) (l.foldl (fun T e=>dE e.1 e.2 T) D)/\Up (l.foldl (fun T e=>dE e.1 e.2 T) D) from this W [] [] Gat.nil List.Pairwise.nil
 intro l
 induction l with
 | nil=>intro P D h u; rw [List.append_nil]; exact ⟨h,u⟩
 | cons e l ih=>
  intro P D h u
  have:=ih (P ++ [e]) _ (h.put u e.1 e.2) (iL e.1 e.2 u)
  rwa [List.append_assoc] at this
theorem Gat.sW {P D:List (Rat × Rat)} (h:Gat P D):Go.Proofs.YtkommhmbkbhmlaaGreat.sW D = Go.Proofs.YtkommhmbkbhmlaaGreat.sW P:=by
 have h1:=mr h.nd
 rw [<- h1,show (fun x=>wt x D) = fun x=>wt x P from funext h.wts]
 suffices ∀ (P:List (Rat × Rat)) (K:List Rat),K.Nodup -> (∀ x ∈ P.map (·.1),x ∈ K) -> bH (fun x=>wt x P) K = Go.Proofs.YtkommhmbkbhmlaaGreat.sW P from this P _ h.nd fun x hx=>(h.keys x).2 hx
 intro P
 induction P with
 | nil=>exact fun K _ _=>fv fun x _=>rfl
 | cons e l ih=>
  intro K hK hs
  have e1:(fun x=>wt x (e :: l)) = fun x=>(if e.1 = x then e.2 else 0) + wt x l:=rfl
  rw [e1,jv,ih K hK fun x hx=>hs x (List.mem_cons_of_mem _ hx)]
  have h2:=mp (f:=fun x=>if e.1 = x then e.2 else 0) (K:=[e.1]) (L:=K) (by simp) hK (fun x hx=>by rw [List.mem_singleton.1 hx]; exact hs _ (List.mem_cons_self ..)) fun x _ hx=>if_neg fun hc=>hx (by rw [hc]; exact List.mem_singleton.2 rfl)
  rw [h2]
  show (if e.1 = e.1 then e.2 else 0) + 0 + _ = e.2 + _
  rw [if_pos rfl]; grind
structure Wd (N:Nat) (W:List (Rat × Rat)):Prop where
 pos:0 < N
 le:N <= 1000000
 key:∀ e ∈ W,Bt 40 40 e.1
 wts:∀ e ∈ W,∃ k,0 < k/\k <= N/\e.2 = un k N
 sum:sW W = 1
 len:W.length <= 400
theorem Wd.part {N:Nat} {W A B:List (Rat × Rat)} (h:Wd N W) (hp:(A ++ B).Perm W):∃ a,a <= N/\sW A = un a N/\(A ≠ [] -> 0 < a):=by
 obtain ⟨a,a1,a2⟩:=gB (N:=N) (A:=A) fun e he=>h.wts e (hp.mem_iff.1 (List.mem_append_left _ he))
 obtain ⟨b,b1,_⟩:=gB (N:=N) (A:=B) fun e he=>h.wts e (hp.mem_iff.1 (List.mem_append_right _ he))
 have hs:sW A + sW B = un N N:=by rw [<- fF,iG hp,h.sum,cI h.pos]
 have h2:un (a + b) N = un N N:=by rw [<- hs,a1,b1,ee]
 have h1:a + b <= N:=(eW h.pos).1 (h2 ▸ Rat.le_refl)
 exact ⟨a,by omega,a1,a2⟩
theorem Wd.atw {N:Nat} {W:List (Rat × Rat)} (h:Wd N W) (x:Rat) (i:Nat):∃ a,a <= N/\wt x (W.take i) = un a N/\(x ∈ (W.take i).map (·.1) -> 0 < a):=by
 obtain ⟨a,a1,a2,a3⟩:=h.part (ku (fun e=>decide (e.1 = x)) W i)
 refine ⟨a,a1,by rw [fE]; exact a2,fun hx=>a3 fun hc=>?_⟩
 obtain ⟨e,he,h1⟩:=List.mem_map.1 hx
 have h2:e ∈ (W.take i).filter fun e=>decide (e.1 = x):=List.mem_filter.2 ⟨he,decide_eq_true h1⟩
 rw [hc] at h2
 cases h2
theorem Wd.gath_fq {N:Nat} {W:List (Rat × Rat)} (h:Wd N W) (i:Nat):∀ e ∈ cA (W.take i),FQ e.1/\FQ e.2:=fun e he=>by
 obtain ⟨h1,h2⟩:=((eL (W.take i)).mem e).1 he
 refine ⟨?_,?_⟩
 ·obtain ⟨d,hd,e1⟩:=List.mem_map.1 h1
  rw [<- e1]
  exact (h.key d (List.mem_of_mem_take hd)).k
 ·obtain ⟨a,a1,a2,_⟩:=h.atw e.1 i
  rw [h2,a2]
  exact eA h.pos h.le (Nat.le_trans a1 h.le)
theorem Wd.dw {N:Nat} {W Z:List (Rat × Rat)} (h:Wd N W) (g:Gat W Z) (u:Up Z):Dw N Z:=by
 refine ⟨u,fun e he=>?_,fun e he=>?_,by rw [g.sW,h.sum,cI h.pos],Nat.le_trans g.len h.len⟩
 ·obtain ⟨h1,_⟩:=(g.mem e).1 he
  obtain ⟨d,hd,e1⟩:=List.mem_map.1 h1
  rw [<- e1]; exact h.key d hd
 ·obtain ⟨h1,h2⟩:=(g.mem e).1 he
  obtain ⟨a,a1,a2,a3⟩:=h.atw e.1 W.length
  rw [List.take_length] at a2 a3
  exact ⟨a,a3 h1,a1,by rw [h2,a2]⟩
theorem Wd.ds {N:Nat} {W Z:List (Rat × Rat)} (h:Wd N W) (g:Gat W Z) (u:Up Z):Ds Z:=⟨N,h.pos,h.le,h.dw g u⟩
def wp (w:Rat) (T:List (Rat × Rat)):List (Rat × Rat):=if w = 0 then [] else sc w T
def cn:List (List (Rat × Rat)) -> List Rat -> List (Rat × Rat)
 | T :: L,w :: ws=>wp w T ++ cn L ws
 | _,_=>[]
theorem gE:∀ {L:List (List (Rat × Rat))} {ws:List Rat} (M:List (List (Rat × Rat))) (vs:List Rat),L.length = ws.length -> cn (L ++ M) (ws ++ vs) = cn L ws ++ cn M vs
 | [],[],_,_,_=>rfl
 | T :: L,w :: ws,M,vs,h=>by
  show wp w T ++ cn (L ++ M) (ws ++ vs) = wp w T ++ cn L ws ++ cn M vs
  rw [gE M vs (by simpa using h),List.append_assoc]
theorem lS {L:List (List (Rat × Rat))} {ws:List Rat} (h:L.length = ws.length) {i:Nat} (hi:i < L.length) (hj:i < ws.length):cn (L.take (i + 1)) (ws.take (i + 1)) = cn (L.take i) (ws.take i) ++ wp ws[i] L[i]:=by
 rw [List.take_succ_eq_append_getElem hi,List.take_succ_eq_append_getElem hj,gE _ _ (by rw [List.length_take,List.length_take]; omega)]
 show _ ++ (wp ws[i] L[i] ++ []) = _
 rw [List.append_nil]
theorem kN {L:List (List (Rat × Rat))} {ws:List Rat} (h:L.length = ws.length) (i:Nat):cn L ws = cn (L.take i) (ws.take i) ++ cn (L.drop i) (ws.drop i):=by
 conv=>lhs; rw [<- List.take_append_drop i L,<- List.take_append_drop i ws]
 rw [gE _ _ (by rw [List.length_take,List.length_take]; omega)]
theorem Wd.pre {N:Nat} {W A B:List (Rat × Rat)} (h:Wd N W) (e:W = A ++ B):∀ d ∈ cA A,FQ d.1/\FQ d.2:=by
 have:=h.gath_fq A.length
 rwa [e,List.take_left] at this
theorem Wd.fq {N:Nat} {W:List (Rat × Rat)} (h:Wd N W):∀ e ∈ W,FQ e.1/\FQ e.2:=fun e he=>by
 obtain ⟨k,k1,k2,k3⟩:=h.wts e he
 exact ⟨(h.key e he).k,by rw [k3]; exact eA h.pos h.le (Nat.le_trans k2 h.le)⟩
end Go.Proofs.YtkommhmbkbhmlaaGreat
namespace Go.Proofs.YtkommhmbkbhmlaaGreat
open Go
end Go.Proofs.YtkommhmbkbhmlaaGreat
namespace Go.Proofs.YtkommhmbkbhmlaaGreat
open Go
set_option maxRecDepth 8000
theorem kS {L:List (List (Rat × Rat))} {l:List Rat} (h:∀ T ∈ L,Ds T) (k:∀ x ∈ l,FQ x) (hL:L.length < 1000) (hl:l.length < 1000):al_p FU (L.map fun T=>T.map ms) (l.map Sg) = some 0:=by
 have hF:=aS
 have h3:=aB (B:=al_l3 FU (L.map fun T=>T.map ms) (l.map Sg)) (fun i:Nat=>L.length - i) (fun i=>i <= L.length) (fun r=>r = .inr ()) ?_ FU 0 (Nat.zero_le _) (by omega)
 ·have h2:=aB (B:=al_l2 FU (l.map Sg)) (fun i:Nat=>l.length - i) (fun i=>i <= l.length) (fun r=>r = .inr ()) ?_ FU 0 (Nat.zero_le _) (by omega)
  ·obtain ⟨r,e3,rfl⟩:=h3
   obtain ⟨r,e2,rfl⟩:=h2
   unfold al_p
   rw [e3]
   show (if (0:Int) <= -1 then some (50:Int) else _) = _
   rw [if_neg (by decide),e2]; rfl
  ·intro i J hi hJ
   unfold al_l2 bR_p
   simp only
   by_cases c:i < l.length
   ·rw [if_pos (by simpa using c),geE (by simpa using c),ab,List.getElem_map,iQ FU _ (k _ (List.getElem_mem c)) hF]
    exact hJ (i + 1) c (by omega)
   ·rw [if_neg (by simpa using c)]
    exact ⟨_,rfl,rfl⟩
 ·intro i J hi hJ
  unfold al_l3 cm_p
  simp only
  by_cases c:i < L.length
  ·rw [if_pos (by simpa using c),geE (by simpa using c),ab,List.getElem_map,iN (h _ (List.getElem_mem c))]
   exact hJ (i + 1) c (by omega)
  ·rw [if_neg (by simpa using c)]
   exact ⟨_,rfl,rfl⟩
theorem mt (A:List (Rat × Rat)) (e:Rat × Rat):cA (A ++ [e]) = gW (cA A) e:=by
 unfold cA
 rw [List.foldl_append]; rfl
theorem mixL {T W A B:List (Rat × Rat)} {w:Rat} {N:Nat} (hW:Wd N W) (e:W = A ++ (sc w T ++ B)) (hT:Ds T) (hw:FQ w):au (ax_l4 FU (T.map ms) (Rt w)) FU (0,(cA A).map mk2) = some ((cA (A ++ sc w T)).map mk2):=by
 have hF:=aS
 obtain ⟨l1,l2⟩:=hT.len
 have hs:=sc_len w T
 have hh:=aB (B:=ax_l4 FU (T.map ms) (Rt w)) (fun s=>T.length - s.1) (fun s=>∃ i,i <= T.length/\s = (i,(cA (A ++ (sc w T).take i)).map mk2)) (fun r=>r = (cA (A ++ sc w T)).map mk2) ?_ FU (0,(cA A).map mk2) ⟨0,Nat.zero_le _,by rw [List.take_zero,List.append_nil]⟩ (by simp only; omega)
 ·obtain ⟨r,e,rfl⟩:=hh
  exact e
 ·rintro s J ⟨i,hi,rfl⟩ hJ
  unfold ax_l4
  simp only
  by_cases c:i < T.length
  ·have f:=hT.fq _ (List.getElem_mem c)
   have hin:(sc w T)[i]'(by omega) = (T[i].1,T[i].2 * w):=by unfold sc; rw [List.getElem_map]
   have g:=(hW.fq (T[i].1,T[i].2 * w) (by
    rw [e,<- hin]
    exact List.mem_append_right _ (List.mem_append_left _ (List.getElem_mem _)))).2
   have hd:=hW.pre (A:=A ++ (sc w T).take i) (B:=(sc w T).drop i ++ B) (by
    rw [e,List.append_assoc,<- List.append_assoc (List.take i _),List.take_append_drop])
   rw [if_pos (by simpa using c),geE (by simpa using c),ab,List.getElem_map,pG f.2,ab,(np FU 8 _ _ f.2.rf hw.rf (by decide) hF).1,ab,show (ms T[i]).fl = Sg T[i].1 from rfl]
   rw [nF f.1 g hd (fun D=>J (i + 1,D))]
   refine hJ _ ⟨i + 1,c,?_⟩ (by simp only; omega)
   rw [List.take_succ_eq_append_getElem (by omega),hin,<- List.append_assoc,mt]
  ·rw [if_neg (by simpa using c)]
   refine ⟨_,rfl,?_⟩
   rw [List.take_of_length_le (by omega)]
def sq (l:List Rat):Rat:=bH (fun x=>x) l
theorem lD {l:List Rat} {i:Nat} (h:i < l.length):sq (l.take (i + 1)) = sq (l.take i) + l[i]:=by
 unfold sq
 rw [List.take_succ_eq_append_getElem h,gm]
 show _ + (l[i] + 0) = _
 grind
theorem nI (q:Rat):q.num.sign = 0 ↔ q = 0:=by rw [Int.sign_eq_zero_iff_zero,Rat.num_eq_zero]
theorem sign_n {q:Rat} (h:0 <= q):¬ q.num.sign < 0:=by
 have:=Rat.num_nonneg.2 h
 rw [Int.sign_neg_iff]; omega
theorem mixG {L:List (List (Rat × Rat))} {ws:List Rat} {N:Nat} (hL:∀ T ∈ L,Ds T) (hw:∀ w ∈ ws,FQ w/\0 <= w) (hps:∀ i,FQ (sq (ws.take i))) (hsum:sq ws = 1) (hl:L.length = ws.length) (h40:ws.length <= 40) (hW:Wd N (cn L ws)) :
  ax_p FU (L.map fun T=>T.map ms) (ws.map Sg) = some ((fS (cn L ws)).map ms,0):=by
 have hF:=aS
 have e7:=aB (B:=ax_l7 FU (ws.map Sg) (L.map fun T=>T.map ms)) (fun i:Nat=>ws.length - i) (fun i=>i <= ws.length) (fun r=>r = .inr ()) ?_ FU 0 (Nat.zero_le _) (by omega)
 ·have e6:=aB (B:=ax_l6 FU (ws.map Sg)) (fun s=>ws.length - s.1) (fun s=>∃ i,i <= ws.length/\s = (i,(Rt (sq (ws.take i))).fh.fc,(Rt (sq (ws.take i))).fh.fj,(Rt (sq (ws.take i))).fe.fc,(Rt (sq (ws.take i))).fe.fj))
   (fun r=>r = ((Rt 1).fh.fc,(Rt 1).fh.fj,(Rt 1).fe.fc,(Rt 1).fe.fj)) ?_ FU (0,(Rt 0).fh.fc,(Rt 0).fh.fj,(Rt 0).fe.fc,(Rt 0).fe.fj) ⟨0,Nat.zero_le _,rfl⟩ (by simp only; omega)
  ·have e5:=aB (B:=ax_l5 FU (L.map fun T=>T.map ms) (ws.map Sg)) (fun s=>L.length - s.1) (fun s=>∃ i,i <= L.length/\s = (i,(cA (cn (L.take i) (ws.take i))).map mk2)) (fun r=>r = (cA (cn L ws)).map mk2) ?_ FU (0,[]) ⟨0,Nat.zero_le _,rfl⟩ (by simp only; omega)
   ·obtain ⟨r,e7,rfl⟩:=e7
    obtain ⟨r,e6,rfl⟩:=e6
    obtain ⟨r,e5,rfl⟩:=e5
    have g:=eL (cn L ws)
    have hlen:=Nat.le_trans g.len hW.len
    have hfq:=hW.pre (A:=cn L ws) (B:=[]) (List.append_nil _).symm
    obtain ⟨c1,c2⟩:=gk (cn L ws)
    unfold ax_p
    rw [if_neg (by simp only [List.length_map]; omega),if_neg (by simp only [List.length_map]; omega),kS hL (fun x hx=>(hw x hx).1) (by omega) (by omega),ab,if_pos rfl,if_pos (by simp only [List.length_map]; exact hl),e7]
    show (if (0:Int) <= -1 then some (([]:List Tb),(2:Int)) else _) = _
    rw [if_neg (show ¬ (0:Int) <= -1 by decide),lR,ab,e6,ab]
    simp only
    rw [nG,ab,show (⟨⟨(Rt 1).fh.fc,(Rt 1).fh.fj⟩,⟨(Rt 1).fe.fc,(Rt 1).fe.fj⟩⟩:Tc) = Rt 1 from rfl,ly FQ1 FQ1,ab,if_pos (jU.2 rfl),e5,ab]
    rw [if_neg (show ¬ 400 < ((cA (cn L ws)).map mk2).length by rw [List.length_map]; omega)]
    exact lC (fun xs=>rfl) (fun e J xs=>rfl) hfq g.nd c2 (c1.perm2 g) (by omega)
   ·rintro s J ⟨i,hi,rfl⟩ hJ
    unfold ax_l5
    simp only
    by_cases c:i < L.length
    ·have cw:i < ws.length:=by omega
     obtain ⟨fw,w0⟩:=hw _ (List.getElem_mem cw)
     have ht:=lS hl c cw
     rw [if_pos (by simpa using c),geE (by simpa using c),ab,geE (by simpa using cw),ab,List.getElem_map,List.getElem_map,bJ FU _ fw (by omega),ab,show (Rt ws[i]).fh = Go.Proofs.YtkommhmbkbhmlaaGreat.L ws[i].num from rfl,dW,ab]
     by_cases cz:ws[i] = 0
     ·rw [if_pos ((nI _).2 cz)]
      refine hJ _ ⟨i + 1,c,?_⟩ (by simp only; omega)
      rw [ht]
      unfold wp
      rw [if_pos cz,List.append_nil]
     ·have hsp:=kN hl (i + 1)
      rw [ht] at hsp
      have hwp:wp ws[i] L[i] = sc ws[i] L[i]:=if_neg cz
      rw [hwp] at ht hsp
      rw [if_neg fun hc=>cz ((nI _).1 hc),mixL hW (by rw [hsp,List.append_assoc]) (hL _ (List.getElem_mem c)) fw,ab]
      refine hJ _ ⟨i + 1,c,?_⟩ (by simp only; omega)
      rw [ht]
    ·rw [if_neg (by simpa using c)]
     refine ⟨_,rfl,?_⟩
     rw [List.take_of_length_le (by omega),List.take_of_length_le (by omega)]
  ·rintro s J ⟨i,hi,rfl⟩ hJ
   unfold ax_l6
   simp only
   by_cases c:i < ws.length
   ·have fw:=(hw _ (List.getElem_mem c)).1
    rw [if_pos (by simpa using c),geE (by simpa using c),ab,List.getElem_map,bJ FU _ fw (by omega),ab]
    rw [show (⟨⟨(Rt (sq (ws.take i))).fh.fc,(Rt (sq (ws.take i))).fh.fj⟩,⟨(Rt (sq (ws.take i))).fe.fc,(Rt (sq (ws.take i))).fe.fj⟩⟩:Tc) = Rt (sq (ws.take i)) from rfl,(jP FU 8 _ _ (hps i).rf fw.rf (by decide) hF).1,ab,<- lD c]
    exact hJ _ ⟨i + 1,c,rfl⟩ (by simp only; omega)
   ·rw [if_neg (by simpa using c)]
    refine ⟨_,rfl,?_⟩
    rw [List.take_of_length_le (by omega),hsum]
 ·intro i J hi hJ
  unfold ax_l7 ct_p
  simp only
  by_cases c:i < ws.length
  ·obtain ⟨fw,w0⟩:=hw _ (List.getElem_mem c)
   rw [if_pos (by simpa using c),geE (by simpa using c),ab,List.getElem_map,bJ FU _ fw (by omega),ab,show (Rt ws[i]).fh = Go.Proofs.YtkommhmbkbhmlaaGreat.L ws[i].num from rfl,dW,ab,ab,if_neg (by rw [decide_eq_true_iff]; exact sign_n w0)]
   exact hJ (i + 1) c (by omega)
  ·rw [if_neg (by simpa using c)]
   exact ⟨_,rfl,rfl⟩
theorem ms_inj {a b:Rat × Rat} (ha:FQ a.1/\FQ a.2) (hb:FQ b.1/\FQ b.2):ms a = ms b ↔ a = b:=by
 refine ⟨fun h=>?_,fun h=>by rw [h]⟩
 have h1:Sg a.1 = Sg b.1:=congrArg Tb.fl h
 have h2:Sg a.2 = Sg b.2:=congrArg Tb.fP h
 exact Prod.ext (jk ha.1 hb.1 h1) (jk ha.2 hb.2 h2)
theorem sameD {T U:List (Rat × Rat)} (hT:∀ e ∈ T,FQ e.1/\FQ e.2) (hU:∀ e ∈ U,FQ e.1/\FQ e.2) (hl:T.length < 1000):bL_p FU (T.map ms) (U.map ms) = some (decide (T = U)):=by
 have hF:=aS
 unfold bL_p
 by_cases h0:T.length = U.length
 ·have hh:=aB (B:=bL_l1 FU (T.map ms) (U.map ms)) (fun i:Nat=>T.length - i) (fun i=>i <= T.length/\T.take i = U.take i) (fun r=>thn (some r) (fun _=>some true) = some (decide (T = U))) ?_ FU 0 ⟨Nat.zero_le _,rfl⟩ (by omega)
  ·obtain ⟨r,e,e2⟩:=hh
   rw [if_pos (by simpa using h0),e,e2]
  ·rintro i J ⟨hi,ht⟩ hJ
   unfold bL_l1 cq_p
   simp only
   by_cases c:i < T.length
   ·have cu:i < U.length:=by omega
    rw [if_pos (by simpa using c),geE (by simpa using c),ab,geE (by simpa using cu),ab,List.getElem_map,List.getElem_map,ab]
    by_cases ce:T[i] = U[i]
    ·rw [if_pos (by rw [ce]; exact decide_eq_true rfl)]
     exact hJ (i + 1) ⟨c,by rw [List.take_succ_eq_append_getElem c,List.take_succ_eq_append_getElem cu,ht,ce]⟩ (by omega)
    ·rw [if_neg (by rw [decide_eq_true_iff,ms_inj (hT _ (List.getElem_mem c)) (hU _ (List.getElem_mem cu))]; exact ce)]
     refine ⟨_,rfl,?_⟩
     rw [decide_eq_false fun hc=>ce (by simp only [hc])]; rfl
   ·rw [if_neg (by simpa using c)]
    refine ⟨_,rfl,?_⟩
    rw [List.take_of_length_le (by omega),List.take_of_length_le (by omega)] at ht
    rw [decide_eq_true ht]; rfl
 ·rw [if_neg (by simpa using h0),decide_eq_false fun hc=>h0 (by rw [hc])]
end Go.Proofs.YtkommhmbkbhmlaaGreat
namespace Go.Proofs.YtkommhmbkbhmlaaGreat
open Go
def wf (f:Rat -> Rat) (W:List (Rat × Rat)):List (Rat × Rat):=W.map fun e=>(e.1,e.2 * f e.1)
theorem nB (f:Rat -> Rat) (x:Rat):∀ W,wt x (wf f W) = wt x W * f x
 | []=>by show (0:Rat) = 0 * f x; grind
 | e :: l=>by
  show (if e.1 = x then e.2 * f e.1 else 0) + wt x (wf f l) = ((if e.1 = x then e.2 else 0) + wt x l) * f x
  rw [nB f x l]
  by_cases c:e.1 = x
  ·rw [if_pos c,if_pos c,c]; grind
  ·rw [if_neg c,if_neg c]; grind
theorem iP (f:Rat -> Rat) (W:List (Rat × Rat)):(wf f W).map (·.1) = W.map (·.1):=by
 unfold wf
 rw [List.map_map]; rfl
def ex (f:Rat -> Rat) (W:List (Rat × Rat)):Rat:=sW (wf f W)
theorem ex_nil (f:Rat -> Rat):ex f [] = 0:=rfl
theorem ex_cons (f:Rat -> Rat) (e:Rat × Rat) (l:List (Rat × Rat)):ex f (e :: l) = e.2 * f e.1 + ex f l:=rfl
theorem ex_app (f:Rat -> Rat) (A B:List (Rat × Rat)):ex f (A ++ B) = ex f A + ex f B:=by
 unfold ex wf
 rw [List.map_append,fF]
theorem ex_gat {W Z:List (Rat × Rat)} (h:Gat W Z) (f:Rat -> Rat):ex f Z = ex f W:=by
 refine Gat.sW ⟨by rw [iP]; exact h.nd,fun x=>?_,fun x=>?_,?_⟩
 ·rw [iP,iP]; exact h.keys x
 ·rw [nB,nB,h.wts]
 ·unfold wf
  rw [List.length_map,List.length_map]; exact h.len
def row (e:Rat × Rat) (U:List (Rat × Rat)):List (Rat × Rat):=U.map fun y=>(e.1 + y.1,e.2 * y.2)
def gq (T:List (Rat × Rat)):Rat:=ex (fun x=>x) T
theorem mQ {W Z:List (Rat × Rat)} (h:Gat W Z):gq Z = gq W:=ex_gat h _
def Cd (A D:Nat) (q:Rat):Prop:=∃ z:Int,q = Rat.divInt z D/\z.natAbs <= A
theorem Cd.add {A B D:Nat} {p q:Rat} (h0:0 < D) (h:Cd A D p) (k:Cd B D q):Cd (A + B) D (p + q):=by
 obtain ⟨x,rfl,hx⟩:=h
 obtain ⟨y,rfl,hy⟩:=k
 refine ⟨x + y,?_,by omega⟩
 rw [Rat.divInt_add_divInt _ _ (by omega) (by omega),<- Int.add_mul,Rat.divInt_mul_right (by omega)]
theorem Cd.mul {A B D E:Nat} {p q:Rat} (h:Cd A D p) (k:Cd B E q):Cd (A * B) (D * E) (p * q):=by
 obtain ⟨x,rfl,hx⟩:=h
 obtain ⟨y,rfl,hy⟩:=k
 refine ⟨x * y,?_,by rw [Int.natAbs_mul]; exact Nat.mul_le_mul hx hy⟩
 rw [Rat.divInt_mul_divInt,Int.natCast_mul]
theorem Cd.mono {A B D:Nat} {p:Rat} (h:Cd A D p) (hl:A <= B):Cd B D p:=by
 obtain ⟨x,rfl,hx⟩:=h
 exact ⟨x,rfl,by omega⟩
theorem Cd.bt {A D i j:Nat} {p:Rat} (h:Cd A D p) (h0:0 < D) (hA:A < 2 ^ i) (hD:D < 2 ^ j):Bt i j p:=by
 obtain ⟨x,rfl,hx⟩:=h
 exact Bt.of (by omega) (by omega) (by rw [Int.natAbs_natCast]; exact hD)
theorem ex_cd {f:Rat -> Rat} {A D N:Nat} (h0:0 < D) (hN:0 < N):∀ {W:List (Rat × Rat)},(∀ e ∈ W,Cd A D (f e.1)) -> (∀ e ∈ W,∃ k,0 < k/\k <= N/\e.2 = un k N) -> Cd (W.length * (N * A)) (N * D) (ex f W)
 | [],_,_=>⟨0,by rw [ex_nil,Rat.divInt_eq_div,Rat.div_def]; exact (Rat.zero_mul _).symm,by simp⟩
 | e :: l,h,k=>by
  obtain ⟨m,m0,m1,m2⟩:=k e (List.mem_cons_self ..)
  have h1:Cd N N e.2:=⟨m,m2,by omega⟩
  have h2:=(h1.mul (h e (List.mem_cons_self ..))).add (Nat.mul_pos hN h0) (ex_cd h0 hN (fun d hd=>h d (List.mem_cons_of_mem _ hd)) fun d hd=>k d (List.mem_cons_of_mem _ hd))
  rw [ex_cons]
  refine h2.mono ?_
  rw [leC,Nat.add_mul,Nat.one_mul]; omega
def LC:Nat:=5354228880
theorem lc_div:∀ b:Nat,b < 25 -> b = 0 ∨ LC % b = 0:=by decide
theorem Sh1.cd {q:Rat} (h:Sh1 q):Cd (1000 * LC) LC q:=by
 obtain ⟨a,b,rfl,h1,h2,h3⟩:=h
 obtain ⟨n,rfl⟩:∃ n:Nat,b = n:=⟨b.toNat,by omega⟩
 rcases lc_div n (by omega) with h4 | h4
 ·omega
 obtain ⟨c,hc⟩:=Nat.dvd_of_mod_eq_zero h4
 have hc0:0 < c:=Nat.pos_of_ne_zero fun h0=>by rw [h0,Nat.mul_zero] at hc; exact absurd hc (by decide)
 refine ⟨a * c,?_,?_⟩
 ·rw [hc,Int.natCast_mul,Rat.divInt_mul_right (by omega)]
 ·rw [Int.natAbs_mul,Int.natAbs_natCast]
  exact Nat.mul_le_mul (by omega) (by rw [hc]; exact Nat.le_mul_of_pos_left _ (by omega))
end Go.Proofs.YtkommhmbkbhmlaaGreat
namespace Go.Proofs.YtkommhmbkbhmlaaGreat
open Go
set_option maxRecDepth 8000
structure Km (N A D:Nat) (T:List (Rat × Rat)):Prop where
 d:Dw N T
 n0:0 < N
 n1:N <= 64
 len:T.length <= 64
 key:∀ e ∈ T,Cd A D e.1
 d0:0 < D
 a1:A < 2 ^ 90
 d1:D < 2 ^ 70
theorem Km.ds {N A D:Nat} {T:List (Rat × Rat)} (h:Km N A D T):Ds T:=⟨N,h.n0,by have:=h.n1; omega,h.d⟩
theorem Km.exb {N A D B E i j:Nat} {T:List (Rat × Rat)} (h:Km N A D T) {f:Rat -> Rat} (hf:∀ e ∈ T,Cd B E (f e.1)) (h0:0 < E) (hB:64 * (64 * B) < 2 ^ i) (hE:64 * E < 2 ^ j) (n:Nat):Bt i j (ex f (T.take n)):=by
 have hl:=h.len
 have hn:=h.n1
 have h1:=ex_cd (f:=f) (W:=T.take n) h0 h.n0 (fun e he=>hf e (List.mem_of_mem_take he)) fun e he=>h.d.wts e (List.mem_of_mem_take he)
 refine h1.bt (Nat.mul_pos h.n0 h0) (Nat.lt_of_le_of_lt (Nat.mul_le_mul ?_ (Nat.mul_le_mul_right B hn)) hB) (Nat.lt_of_le_of_lt (Nat.mul_le_mul_right E hn) hE)
 rw [List.length_take]; omega
theorem Km.one {N A D B E i j:Nat} {T:List (Rat × Rat)} (h:Km N A D T) {f:Rat -> Rat} {e:Rat × Rat} (he:e ∈ T) (hf:Cd B E (f e.1)) (h0:0 < E) (hB:64 * B < 2 ^ i) (hE:64 * E < 2 ^ j):Bt i j (e.2 * f e.1):=by
 have hn:=h.n1
 obtain ⟨k,k1,k2,k3⟩:=h.d.wts e he
 have h1:Cd N N e.2:=⟨k,k3,by omega⟩
 exact (h1.mul hf).bt (Nat.mul_pos h.n0 h0) (Nat.lt_of_le_of_lt (Nat.mul_le_mul_right B hn) hB) (Nat.lt_of_le_of_lt (Nat.mul_le_mul_right E hn) hE)
theorem ex_take (f:Rat -> Rat) {T:List (Rat × Rat)} {i:Nat} (h:i < T.length):ex f (T.take (i + 1)) = ex f (T.take i) + T[i].2 * f T[i].1:=by
 rw [List.take_succ_eq_append_getElem h,ex_app]
 show _ + (T[i].2 * f T[i].1 + 0) = _
 rw [Rat.add_zero]
theorem Km.mb {N A D:Nat} {T:List (Rat × Rat)} (h:Km N A D T) (n:Nat):Bt 102 76 (ex (fun x=>x) (T.take n)):=
 h.exb (fun e he=>h.key e he) h.d0 (by have:=h.a1; omega) (by have:=h.d1; omega) n
theorem meanL {N A D:Nat} {T:List (Rat × Rat)} (h:Km N A D T):au (bs_l1 FU (T.map ms)) FU (0,fV 0) = some (fV (gq T)):=by
 have hF:=aS
 have hl:=h.len
 have hh:=aB (B:=bs_l1 FU (T.map ms)) (fun s=>T.length - s.1) (fun s=>∃ i,i <= T.length/\s = (i,fV (ex (fun x=>x) (T.take i)))) (fun r=>r = fV (gq T)) ?_ FU (0,fV 0) ⟨0,Nat.zero_le _,rfl⟩ (by simp only; omega)
 ·obtain ⟨r,e,rfl⟩:=hh
  exact e
 ·rintro s J ⟨i,hi,rfl⟩ hJ
  unfold bs_l1 bP_p fV
  simp only
  by_cases c:i < T.length
  ·have f:=h.ds.fq _ (List.getElem_mem c)
   have f1:=(h.mb i).fq (by decide) (by decide)
   have f2:FQ (T[i].2 * T[i].1):=(h.one (i:=100) (j:=76) (f:=fun x=>x) (List.getElem_mem c) (h.key _ (List.getElem_mem c)) h.d0 (by have:=h.a1; omega) (by have:=h.d1; omega)).fq (by decide) (by decide)
   rw [if_pos (by simpa using c),geE (by simpa using c),ab,List.getElem_map,pG f.2,ab,show (ms T[i]).fl = Sg T[i].1 from rfl,bJ FU _ f.1 (by omega),ab,ab,(np FU 8 _ _ f.2.rf f.1.rf (by decide) hF).1,ab]
   rw [show (⟨⟨(Rt (ex (fun x=>x) (T.take i))).fh.fc,(Rt (ex (fun x=>x) (T.take i))).fh.fj⟩,⟨(Rt (ex (fun x=>x) (T.take i))).fe.fc,(Rt (ex (fun x=>x) (T.take i))).fe.fj⟩⟩:Tc) = Rt (ex (fun x=>x) (T.take i)) from rfl,(jP FU 8 _ _ f1.rf f2.rf (by decide) hF).1,ab,<- ex_take (fun x=>x) c]
   exact hJ _ ⟨i + 1,c,rfl⟩ (by simp only; omega)
  ·rw [if_neg (by simpa using c)]
   refine ⟨_,rfl,?_⟩
   rw [List.take_of_length_le (by omega)]; rfl
theorem meanD {N A D:Nat} {T:List (Rat × Rat)} (h:Km N A D T):bs_p FU (T.map ms) = some (Sg (gq T),0)/\Bt 102 76 (gq T):=by
 have hb:Bt 102 76 (gq T):=by
  have hb:=h.mb T.length
  rw [List.take_length] at hb
  exact hb
 refine ⟨?_,hb⟩
 have hl:=meanL h
 unfold bs_p
 rw [iN h.ds,ab,if_pos rfl,lR,ab]
 show Option.bind (au (bs_l1 FU (T.map ms)) FU (0,fV 0)) _ = _
 rw [hl,ab]
 show ((ab_p FU (Rt (gq T))).bind _) = _
 rw [lj (hb.fq (by decide) (by decide)),ab]
end Go.Proofs.YtkommhmbkbhmlaaGreat
namespace Go.Proofs.YtkommhmbkbhmlaaGreat
open Go
set_option maxRecDepth 8000
theorem Wd.km {N A D:Nat} {W Z:List (Rat × Rat)} (h:Wd N W) (g:Gat W Z) (u:Up Z) (hN:N <= 64) (hl:W.length <= 64) (hk:∀ e ∈ W,Cd A D e.1) (d0:0 < D) (a1:A < 2 ^ 90) (d1:D < 2 ^ 70):Km N A D Z:=by
 refine ⟨h.dw g u,h.pos,hN,Nat.le_trans g.len hl,fun e he=>?_,d0,a1,d1⟩
 obtain ⟨h1,_⟩:=(g.mem e).1 he
 obtain ⟨d,hd,e1⟩:=List.mem_map.1 h1
 rw [<- e1]; exact hk d hd
theorem Gat.of {P Q D:List (Rat × Rat)} (h:Gat P D) (hp:P.Perm Q):Gat Q D:=
 ⟨h.nd,fun x=>(h.keys x).trans (hp.map _).mem_iff,fun x=>(h.wts x).trans (wt_perm x hp),by rw [<- hp.length_eq]; exact h.len⟩
structure Wq (W:List (Rat × Rat)):Prop where
 fq:∀ e ∈ W,FQ e.1/\FQ e.2
 pre:∀ A B,W = A ++ B -> ∀ d ∈ cA A,FQ d.1/\FQ d.2
theorem wq_of {N:Nat} {W:List (Rat × Rat)} (n0:0 < N) (n1:N <= 1000000) (key:∀ e ∈ W,Bt 40 40 e.1) (wts:∀ e ∈ W,∃ k,0 < k/\k <= N/\e.2 = un k N) (sum:sW W = 1):Wq W:=by
 have part:∀ A B,(A ++ B).Perm W -> ∃ a,a <= N/\sW A = un a N:=fun A B hp=>by
  obtain ⟨a,a1,_⟩:=gB (N:=N) (A:=A) fun e he=>wts e (hp.mem_iff.1 (List.mem_append_left _ he))
  obtain ⟨b,b1,_⟩:=gB (N:=N) (A:=B) fun e he=>wts e (hp.mem_iff.1 (List.mem_append_right _ he))
  have hs:sW A + sW B = un N N:=by rw [<- fF,iG hp,sum,cI n0]
  have h2:un (a + b) N = un N N:=by rw [<- hs,a1,b1,ee]
  have h1:a + b <= N:=(eW n0).1 (h2 ▸ Rat.le_refl)
  exact ⟨a,by omega,a1⟩
 refine ⟨fun e he=>?_,fun A B e d hd=>?_⟩
 ·obtain ⟨k,k0,k1,k2⟩:=wts e he
  exact ⟨(key e he).k,by rw [k2]; exact eA n0 n1 (by omega)⟩
 ·obtain ⟨h1,h2⟩:=((eL A).mem d).1 hd
  refine ⟨?_,?_⟩
  ·obtain ⟨x,hx,e1⟩:=List.mem_map.1 h1
   rw [<- e1]
   exact (key x (by rw [e]; exact List.mem_append_left _ hx)).k
  ·obtain ⟨a,a1,a2⟩:=part (A.filter fun e=>decide (e.1 = d.1)) (A.filter (fun e=>!decide (e.1 = d.1)) ++ B) (by
    rw [e,<- List.append_assoc]; exact (List.filter_append_perm _ A).append_right B)
   rw [h2,fE,a2]
   exact eA n0 n1 (by omega)
theorem Wd.wq {N:Nat} {W:List (Rat × Rat)} (h:Wd N W):Wq W:=wq_of h.pos h.le h.key h.wts h.sum
def raw (l:List Rat) (N:Nat):List (Rat × Rat):=l.map fun q=>(q,un 1 N)
theorem mU (N:Nat):∀ l,sW (raw l N) = un l.length N
 | []=>by rw [leN,cU]; rfl
 | q :: l=>by
  show un 1 N + sW (raw l N) = un (l.length + 1) N
  rw [mU N l,ee,Nat.add_comm]
theorem ge (l:List Rat) (N:Nat):(raw l N).length = l.length:=List.length_map ..
theorem nK {l:List Rat} (hk:∀ q ∈ l,Bt 40 40 q) (h0:0 < l.length) (h4:l.length <= 400):Wd l.length (raw l l.length):=by
 refine ⟨h0,by omega,fun e he=>?_,fun e he=>?_,by rw [mU,cI h0],by rw [ge]; exact h4⟩
 ·obtain ⟨q,hq,rfl⟩:=List.mem_map.1 he
  exact hk q hq
 ·obtain ⟨q,hq,rfl⟩:=List.mem_map.1 he
  exact ⟨1,by decide,h0,rfl⟩
theorem overN {N:Nat} (h0:0 < N) (h4:N <= 1000000):aZ_p FU (Rt 1) (Rt (Rat.divInt N 1)) = some (Rt (un 1 N)):=by
 have hF:=aS
 have f:FQ (Rat.divInt N 1):=(Bt.of (i:=40) (j:=40) (by decide) (by omega) (by decide)).fq (by decide) (by decide)
 have hn:Rat.divInt N 1 ≠ 0:=fun hc=>by
  have h2:Rat.divInt N 1 = Rat.divInt 0 1:=hc
  rw [Rat.divInt_eq_divInt_iff (by decide) (by decide)] at h2
  omega
 rw [(overG FU 8 _ _ FQ1.rf f.rf hn (by decide) hF).1]
 have e:(1:Rat) = Rat.divInt 1 1:=rfl
 rw [e,Rat.div_def,Rat.inv_divInt,Rat.divInt_mul_divInt]
 unfold un
 rw [Int.mul_one,Int.one_mul]; rfl
theorem div_one (z:Int):(Rat.divInt z 1).num = z/\(Rat.divInt z 1).den = 1:=by
 rw [show (1:Int) = ((1:Nat):Int) from rfl,Rat.divInt_ofNat,Rat.mkRat_one]
 exact ⟨rfl,rfl⟩
theorem fromN {N:Nat} (h4:N <= 1000000):av_p FU (N:Int) = some (Rt (Rat.divInt N 1)):=by
 rw [mL (N:Int) (by unfold Sm; omega)]
 obtain ⟨e1,e2⟩:=div_one (N:Int)
 show some (⟨Go.Proofs.YtkommhmbkbhmlaaGreat.L (N:Int),Go.Proofs.YtkommhmbkbhmlaaGreat.L 1⟩:Tc) = some (⟨Go.Proofs.YtkommhmbkbhmlaaGreat.L (Rat.divInt N 1).num,Go.Proofs.YtkommhmbkbhmlaaGreat.L ((Rat.divInt N 1).den:Int)⟩:Tc)
 rw [e1,e2]; rfl
theorem tallyL {l:List Rat} {N:Nat} (hW:Wq (raw l N)) (hl:l.length <= 1000) (hN:FQ (un 1 N)):au (aF_l1 FU (l.map Sg) (Rt (un 1 N))) FU (0,[]) = some ((cA (raw l N)).map mk2):=by
 have hF:=aS
 have hrl:=ge l N
 have hh:=aB (B:=aF_l1 FU (l.map Sg) (Rt (un 1 N))) (fun s=>l.length - s.1) (fun s=>∃ i,i <= l.length/\s = (i,(cA ((raw l N).take i)).map mk2)) (fun r=>r = (cA (raw l N)).map mk2) ?_ FU (0,[]) ⟨0,Nat.zero_le _,rfl⟩ (by simp only; omega)
 ·obtain ⟨r,e,rfl⟩:=hh
  exact e
 ·rintro s J ⟨i,hi,rfl⟩ hJ
  unfold aF_l1
  simp only
  by_cases c:i < l.length
  ·have hin:(raw l N)[i]'(by omega) = (l[i],un 1 N):=by unfold raw; rw [List.getElem_map]
   have f:=(hW.fq _ (List.getElem_mem (show i < (raw l N).length by omega))).1
   rw [hin] at f
   have hd:=hW.pre ((raw l N).take i) ((raw l N).drop i) (List.take_append_drop ..).symm
   rw [if_pos (by simpa using c),geE (by simpa using c),ab,List.getElem_map]
   rw [nF f hN hd (fun D=>J (i + 1,D))]
   refine hJ _ ⟨i + 1,c,?_⟩ (by simp only; omega)
   rw [me (by omega),hin]
  ·rw [if_neg (by simpa using c)]
   refine ⟨_,rfl,?_⟩
   rw [List.take_of_length_le (by omega)]
theorem kT {l:List Rat} (hk:∀ q ∈ l,Bt 40 40 q) (h0:0 < l.length) (h4:l.length <= 400):aF_p FU (l.map Sg) = some ((fS (raw l l.length)).map ms,0):=by
 have hF:=aS
 have hW:=nK hk h0 h4
 have g:=eL (raw l l.length)
 have hlen:=Nat.le_trans g.len hW.len
 have hfq:=hW.wq.pre _ [] (List.append_nil _).symm
 obtain ⟨c1,c2⟩:=gk (raw l l.length)
 have ha:=kS (L:=[]) (l:=l) (fun T hT=>by cases hT) (fun x hx=>(hk x hx).k) (by simp) (by omega)
 unfold aF_p
 rw [if_neg (by simp only [List.length_map]; omega)]
 rw [show al_p FU [] (l.map Sg) = some 0 from ha,ab,if_pos rfl,if_neg (by simp only [List.length_map]; omega),nG,ab,List.length_map,fromN (by omega),ab,overN h0 (by omega),ab,tallyL hW.wq (by omega) (eA h0 (by omega) (by omega)),ab]
 rw [if_neg (show ¬ 400 < ((cA (raw l l.length)).map mk2).length by rw [List.length_map]; omega)]
 exact lC (fun xs=>rfl) (fun e J xs=>rfl) hfq g.nd c2 (c1.perm2 g) (by omega)
end Go.Proofs.YtkommhmbkbhmlaaGreat
namespace Go.Proofs.YtkommhmbkbhmlaaGreat
open Go
set_option maxRecDepth 8000
theorem nC:bK_p FU = some true:=by kernel_rfl
theorem qG {a b:Int} (h0:b ≠ 0) (ha:Sm a) (hb:Sm b):ah_p FU a b = some (Sg (Rat.divInt a b)):=by
 unfold ah_p
 rw [sof h0 ha hb,ab]
theorem pt_ds {q:Rat} (h:Bt 40 40 q):Ds [(q,1)]:=by
 refine ⟨1,by decide,by decide,List.pairwise_singleton ..,fun e he=>?_,fun e he=>?_,?_,by simp⟩
 ·rw [List.mem_singleton.1 he]; exact h
 ·rw [List.mem_singleton.1 he]; exact ⟨1,by decide,by decide,(cI (by decide)).symm⟩
 ·show (1:Rat) + 0 = un 1 1
  rw [Rat.add_zero,cI (by decide)]
theorem pointD {q:Rat} (h:FQ q):cp_p FU (Sg q) = some ([ms (q,1)],0):=by
 have ha:=kS (L:=[]) (l:=[q]) (fun T hT=>by cases hT) (fun x hx=>by rw [List.mem_singleton.1 hx]; exact h) (by simp) (by simp)
 have ho:cr_p FU 1 1 = some (Sg 1,0):=sof (by decide) (by unfold Sm; decide) (by unfold Sm; decide)
 unfold cp_p
 rw [show al_p FU [] [Sg q] = some 0 from ha,ab,if_pos rfl,ho,ab]; rfl
def dbl (l:List Rat):List Rat:=l.flatMap fun q=>[q,q]
theorem dU:∀ l,(dbl l).length = l.length * 2
 | []=>rfl
 | q :: l=>by
  show (dbl l).length + 1 + 1 = (l.length + 1) * 2
  rw [dU l]; omega
theorem dbl_app (l:List Rat) (q:Rat):dbl (l ++ [q]) = dbl l ++ [q,q]:=by
 unfold dbl
 rw [List.flatMap_append]; rfl
theorem jp {x:Rat}:∀ {l},x ∈ dbl l ↔ x ∈ l
 | []=>Iff.rfl
 | q :: l=>by
  show x ∈ q :: q :: dbl l ↔ _
  rw [List.mem_cons,List.mem_cons,List.mem_cons,jp (l:=l)]
  exact ⟨fun h=>h.elim .inl id,.inr⟩
theorem jL (l:List Rat) (N:Nat):(raw l N).map (·.1) = l:=by
 unfold raw
 rw [List.map_map]
 exact List.map_id l
theorem nk (x:Rat) (N:Nat):∀ l,wt x (raw (dbl l) (N * 2)) = wt x (raw l N)
 | []=>rfl
 | q :: l=>by
  have e:un 1 (N * 2) + un 1 (N * 2) = un 1 N:=by
   rw [ee]
   exact un_mul (k:=1) (N:=N) (M:=2) (by decide)
  show (if q = x then un 1 (N * 2) else 0) + ((if q = x then un 1 (N * 2) else 0) + wt x (raw (dbl l) (N * 2))) = (if q = x then un 1 N else 0) + wt x (raw l N)
  rw [nk x N l,<- e]
  split <;> grind
theorem gat_dbl {l:List Rat} {N:Nat} {Z:List (Rat × Rat)} (h:Gat (raw l N) Z):Gat (raw (dbl l) (N * 2)) Z:=by
 refine ⟨h.nd,fun x=>?_,fun x=>?_,?_⟩
 ·rw [h.keys,jL,jL,jp]
 ·rw [h.wts,nk]
 ·have:=h.len
  rw [ge] at this ⊢
  rw [dU]; omega
theorem lg {w:Rat} (hw:w ≠ 0):∀ l:List Rat,cn (l.map fun q=>[(q,1)]) (List.replicate l.length w) = l.map fun q=>(q,w)
 | []=>rfl
 | q :: l=>by
  show wp w [(q,1)] ++ cn (l.map fun q=>[(q,1)]) (List.replicate l.length w) = (q,w) :: l.map fun q=>(q,w)
  rw [lg hw l]
  unfold wp
  rw [if_neg hw]
  show (q,1 * w) :: ([] ++ _) = _
  rw [Rat.one_mul]; rfl
theorem kH (N:Nat):∀ i,sq (List.replicate i (un 1 N)) = un i N
 | 0=>by rw [cU]; rfl
 | i + 1=>by
  show un 1 N + sq (List.replicate i (un 1 N)) = _
  rw [kH N i,ee,Nat.add_comm]
theorem sq_cd:∀ {l:List Rat},(∀ q ∈ l,Sh1 q) -> Cd (l.length * (1000 * LC)) LC (sq l)
 | [],_=>⟨0,by show (0:Rat) = _; rw [Rat.divInt_eq_div,Rat.div_def]; exact (Rat.zero_mul _).symm,by simp⟩
 | q :: l,h=>by
  have h1:=((h q (List.mem_cons_self ..)).cd).add (by decide) (sq_cd (l:=l) fun x hx=>h x (List.mem_cons_of_mem _ hx))
  show Cd _ _ (q + sq l)
  refine h1.mono ?_
  rw [leC,Nat.add_mul]; omega
theorem sq_bt {l:List Rat} (h:∀ q ∈ l,Sh1 q) (h8:l.length <= 8):Bt 60 40 (sq l):=
 (sq_cd h).bt (by decide) (Nat.lt_of_le_of_lt (Nat.mul_le_mul_right _ h8) (by decide)) (by decide)
theorem sumD {l:List Rat} (h:∀ q ∈ l,Sh1 q) (h8:l.length <= 8):bW_p FU (l.map Sg) = some (Sg (sq l),0):=by
 have hF:=aS
 have hq:∀ q ∈ l,FQ q:=fun q hq=>(h q hq).bt.q
 have hv:aW_p FU (l.map Sg) = some true:=mJ FU l hq (by omega) hF
 have hb:∀ i,FQ (sq (l.take i)):=fun i=>(sq_bt (l:=l.take i) (fun q hq=>h q (List.mem_of_mem_take hq)) (by rw [List.length_take]; omega)).fq (by decide) (by decide)
 have hh:=aB (B:=bW_l1 FU (l.map Sg)) (fun s=>l.length - s.1) (fun s=>∃ i,i <= l.length/\s = (i,fV (sq (l.take i)))) (fun r=>r = fV (sq l)) ?_ FU (0,fV 0) ⟨0,Nat.zero_le _,rfl⟩ (by simp only; omega)
 ·obtain ⟨r,e,rfl⟩:=hh
  have hl:=hb l.length
  rw [List.take_length] at hl
  unfold bW_p
  rw [if_neg (by simp only [List.length_map]; omega),hv,ab,if_pos rfl,lR,ab]
  show Option.bind (au (bW_l1 FU (l.map Sg)) FU (0,fV 0)) _ = _
  rw [e,ab]
  show ((ab_p FU (Rt (sq l))).bind _) = _
  rw [lj hl,ab]
 ·rintro s J ⟨i,hi,rfl⟩ hJ
  unfold bW_l1 fV
  simp only
  by_cases c:i < l.length
  ·have f:=hq _ (List.getElem_mem c)
   rw [if_pos (by simpa using c),geE (by simpa using c),ab,List.getElem_map,bJ FU _ f (by omega),ab]
   rw [show (⟨⟨(Rt (sq (l.take i))).fh.fc,(Rt (sq (l.take i))).fh.fj⟩,⟨(Rt (sq (l.take i))).fe.fc,(Rt (sq (l.take i))).fe.fj⟩⟩:Tc) = Rt (sq (l.take i)) from rfl,(jP FU 8 _ _ (hb i).rf f.rf (by decide) hF).1,ab,<- lD c]
   exact hJ _ ⟨i + 1,c,rfl⟩ (by simp only; omega)
  ·rw [if_neg (by simpa using c)]
   refine ⟨_,rfl,?_⟩
   rw [List.take_of_length_le (by omega)]
theorem jQ (N:Nat):∀ l,gq (raw l N) = un 1 N * sq l
 | []=>by show (0:Rat) = un 1 N * 0; rw [Rat.mul_zero]
 | q :: l=>by
  show un 1 N * q + gq (raw l N) = un 1 N * (q + sq l)
  rw [jQ N l,Rat.mul_add]
theorem l2_ok (ds:List Tf) (h8:ds.length <= 8):∃ qs:List Rat,(∀ q ∈ qs,Sh1 q)/\qs.length <= 8/\au (aj_l2 FU ds) FU (0,[],[],[],[]) = some (.inr (qs.map Sg,qs.reverse.map Sg,(dbl qs).map Sg,qs.map fun q=>[ms (q,1)])):=by
 have hF:=aS
 have hh:=aB (B:=aj_l2 FU ds) (fun s=>ds.length - s.1) (fun s=>s.1 <= ds.length/\∃ qs:List Rat,qs.length = s.1/\(∀ q ∈ qs,Sh1 q)/\s.2 = (qs.map (fun q=>[ms (q,1)]),(dbl qs).map Sg,qs.reverse.map Sg,qs.map Sg))
  (fun r=>∃ qs:List Rat,(∀ q ∈ qs,Sh1 q)/\qs.length <= 8/\r = .inr (qs.map Sg,qs.reverse.map Sg,(dbl qs).map Sg,qs.map fun q=>[ms (q,1)])) ?_ FU (0,[],[],[],[]) ⟨Nat.zero_le _,[],rfl,by simp,rfl⟩ (by simp only; omega)
 ·obtain ⟨r,e,qs,h1,h2,rfl⟩:=hh
  exact ⟨qs,h1,h2,e⟩
 ·rintro ⟨i,s⟩ J ⟨hi,qs,h1,h2,hs⟩ hJ
  simp only at hi h1 hs hJ
  subst hs
  have hd:=dU qs
  unfold aj_l2
  simp only
  by_cases c:i < ds.length
  ·obtain ⟨q,e1,e2⟩:=shortD ds[i]
   have fq:=e2.bt.q
   have hpt:=pt_ds (e2.bt.mono (i' :=40) (j' :=40) (by decide) (by decide))
   rw [if_pos c,geE c,ab,e1,ab,eQ _ _ (by simp only [List.length_map,leC,leN]; omega),ab,eQ _ _ (by simp only [List.length_map,List.length_reverse,leC,leN]; omega),ab,eQ _ _ (by simp only [List.length_map,leC,leN]; omega),ab,pointD fq,ab]
   simp only
   rw [if_pos trivial,show az_p FU [ms (q,1)] = some 0 from iN hpt,ab,if_pos rfl,eQ _ _ (by simp only [List.length_map,leC,leN]; omega),ab]
   refine hJ _ ⟨c,qs ++ [q],by rw [List.length_append,h1]; rfl,fun x hx=>?_,?_⟩ (by simp only; omega)
   ·rcases List.mem_append.1 hx with hx | hx
    ·exact h2 x hx
    ·rw [List.mem_singleton.1 hx]; exact e2
   ·simp only
    rw [dbl_app,List.reverse_append,List.map_append,List.map_append,List.map_append,List.map_append]
    rfl
  ·rw [if_neg c]
   exact ⟨_,rfl,qs,h2,by omega,rfl⟩
theorem l1_ok {xs:List Ta} {N:Nat} (hx:xs.length = N) (h0:0 < N) (h8:N <= 8):au (aj_l1 FU xs) FU (0,[]) = some ((List.replicate N (un 1 N)).map Sg):=by
 have hF:=aS
 have hh:=aB (B:=aj_l1 FU xs) (fun s=>N - s.1) (fun s=>s.1 <= N/\s.2 = (List.replicate s.1 (un 1 N)).map Sg) (fun r=>r = (List.replicate N (un 1 N)).map Sg) ?_ FU (0,[]) ⟨Nat.zero_le _,rfl⟩ (by simp only; omega)
 ·obtain ⟨r,e,rfl⟩:=hh
  exact e
 ·rintro ⟨i,ys⟩ J ⟨hi,hy⟩ hJ
  simp only at hi hy hJ
  subst hy
  unfold aj_l1
  simp only
  by_cases c:i < N
  ·rw [if_pos (by omega),hx,qG (by omega) (by unfold Sm; decide) (by unfold Sm; omega),ab,eQ _ _ (by simp only [List.length_map,List.length_replicate,leC,leN]; omega),ab]
   refine hJ _ ⟨c,?_⟩ (by simp only; omega)
   simp only
   rw [List.replicate_succ', List.map_append]; rfl
  ·rw [if_neg (by omega)]
   refine ⟨_,rfl,?_⟩
   rw [show i = N by omega]
theorem jc {Z:List (Rat × Rat)} (h:Ds Z):am_p FU (Z.map ms) 0 (Z.map ms) = some true:=by
 unfold am_p
 rw [sameD h.fq h.fq (by have:=h.len; omega),ab,if_pos (decide_eq_true rfl)]; rfl
theorem kC:aF_p FU [] = some ([],4):=by kernel_rfl
theorem ft (a0:Ti):aj_p FU a0 = some true:=by
 have hF:=aS
 obtain ⟨qs,h1,h8,e1⟩:=l2_ok (a0.fL.take (min a0.fL.length 8)) (by rw [List.length_take]; omega)
 unfold aj_p
 rw [nC,ab,if_pos rfl,kQ (by omega),ab,e1]
 show (if (qs.map Sg).length = 0 then _ else _) = _
 by_cases h0:qs.length = 0
 ·have hq:qs = []:=List.eq_nil_of_length_eq_zero h0
  subst hq
  rw [if_pos (show (List.map Sg ([]:List Rat)).length = 0 from rfl),show List.map Sg ([]:List Rat) = [] from rfl,kC,ab]
  rfl
 ·have hp:0 < qs.length:=by omega
  have hk:∀ q ∈ qs,Bt 40 40 q:=fun q hq=>(h1 q hq).bt.mono (by decide) (by decide)
  have hW:=nK hk hp (by omega)
  obtain ⟨c1,c2⟩:=gk (raw qs qs.length)
  have t1:=kT hk hp (by omega)
  have hrev:aF_p FU (qs.reverse.map Sg) = some ((fS (raw qs qs.length)).map ms,0):=by
   have h:=kT (l:=qs.reverse) (fun q hq=>hk q (List.mem_reverse.1 hq)) (by rw [List.length_reverse]; exact hp) (by rw [List.length_reverse]; omega)
   obtain ⟨d1,d2⟩:=gk (raw qs.reverse qs.reverse.length)
   rw [h,(d1.of (show (raw qs.reverse qs.reverse.length).Perm (raw qs qs.length) from by rw [List.length_reverse]; exact (List.reverse_perm qs).map _)).one c1 d2 c2]
  have hdbl:aF_p FU ((dbl qs).map Sg) = some ((fS (raw qs qs.length)).map ms,0):=by
   have h:=kT (l:=dbl qs) (fun q hq=>hk q (jp.1 hq)) (by rw [dU]; omega) (by rw [dU]; omega)
   rw [dU] at h
   obtain ⟨d1,d2⟩:=gk (raw (dbl qs) (qs.length * 2))
   rw [h,d1.one (gat_dbl c1) d2 c2]
  have hw0:un 1 qs.length ≠ 0:=fun hc=>by
   rw [<- cU qs.length] at hc
   have h2:un 1 qs.length <= un 0 qs.length:=by rw [hc]; exact Rat.le_refl
   have:=(eW hp).1 h2
   omega
  have hmr:cn (qs.map fun q=>[(q,1)]) (List.replicate qs.length (un 1 qs.length)) = raw qs qs.length:=lg hw0 qs
  have hmix:ax_p FU (qs.map fun q=>[ms (q,1)]) ((List.replicate qs.length (un 1 qs.length)).map Sg) = some ((fS (raw qs qs.length)).map ms,0):=by
   have h:=mixG (L:=qs.map fun q=>[(q,1)]) (ws:=List.replicate qs.length (un 1 qs.length)) (N:=qs.length) (fun T hT=>?_) (fun w hw=>?_) (fun i=>?_) ?_ (by simp) (by simp; omega) (by rw [hmr]; exact hW)
   ·rw [hmr,List.map_map] at h
    exact h
   ·obtain ⟨q,hq,rfl⟩:=List.mem_map.1 hT
    exact pt_ds (hk q hq)
   ·rw [List.eq_of_mem_replicate hw]
    refine ⟨eA hp (by omega) (by omega),?_⟩
    rw [<- cU qs.length]
    exact (eW hp).2 (Nat.zero_le _)
   ·rw [List.take_replicate,kH]
    exact eA hp (by omega) (by omega)
   ·rw [kH,cI hp]
  have hZ:=hW.ds c1 c2
  have km:=hW.km (A:=1000 * LC) (D:=LC) c1 c2 (by omega) (by rw [ge]; omega) (fun e he=>by
   obtain ⟨q,hq,rfl⟩:=List.mem_map.1 he
   exact (h1 q hq).cd) (by decide) (by decide) (by decide)
  obtain ⟨m1,m2⟩:=meanD km
  have fm:=m2.fq (by decide) (by decide)
  have hm:gq (fS (raw qs qs.length)) = sq qs / Rat.divInt (qs.length:Int) 1:=by
   rw [mQ c1,jQ,Rat.div_def,Rat.inv_divInt,Rat.mul_comm]; rfl
  rw [hm] at m1 fm
  have hn:Rat.divInt (qs.length:Int) 1 ≠ 0:=fun hc=>by
   have h2:Rat.divInt (qs.length:Int) 1 = Rat.divInt 0 1:=hc
   rw [Rat.divInt_eq_divInt_iff (by decide) (by decide)] at h2
   omega
  have fn:FQ (Rat.divInt (qs.length:Int) 1):=(Bt.of (i:=40) (j:=40) (by decide) (by omega) (by decide)).fq (by decide) (by decide)
  have fs:=(sq_bt h1 h8).fq (by decide) (by decide)
  rw [if_neg (by simpa using h0),l1_ok (List.length_map ..) hp h8,ab,t1,ab]
  simp only
  rw [m1,ab,sumD h1 h8,ab,List.length_map,qG (by decide) (by unfold Sm; omega) (by unfold Sm; decide),ab]
  simp only
  rw [div_q fs fn hn fm hF,ab]
  simp only
  rw [if_pos trivial,if_pos trivial,if_pos trivial,if_pos trivial,if_pos trivial,iN hZ,ab,if_pos rfl,hrev,ab]
  simp only
  rw [jc hZ,ab,if_pos rfl,hdbl,ab]
  simp only
  rw [jc hZ,ab,if_pos rfl,hmix,ab]
  simp only
  rw [jc hZ,ab]
theorem fu (a0:Ti):∃ n,aj_p n a0 = some true:=⟨FU,ft a0⟩
end Go.Proofs.YtkommhmbkbhmlaaGreat
