/- Plain laws: sessions, abstractly. No program in sight. -/
import Derived.Test.YtcijnmkodpfpgaaGreatDoorZSSd
namespace Go.Proofs.YtcijnmkodpfpgaaGreatDoor
open Go
def putO (p:List Int) (u f t:Int):Option (List Int):=
  if p[u.toNat]? = some f∧f ∈ p.set u.toNat t then some (p.set u.toNat t) else none
def revM (m:TMove):TMove:=⟨m.fUnit,m.fTo,m.fFrom⟩
def walkO (tr:TMove → TMove):List TMove → List Int → Bool
  | [],_=>true
  | m :: l,p=>match putO p (tr m).fUnit (tr m).fFrom (tr m).fTo with
    | some q=>walkO tr l q
    | none=>false
def Mv (n:Nat) (k:Int) (m:TMove):Prop:=0 ≤ m.fUnit∧m.fUnit < n∧0 ≤ m.fFrom∧m.fFrom < k∧0 ≤ m.fTo∧m.fTo < k∧m.fFrom ≠ m.fTo
def Fits (n:Nat) (p:List Int) (k:Int):Prop:=p.length = n∧PlanOk p k
theorem putO_some {p q:List Int} {u f t:Int} (h:putO p u f t = some q):p[u.toNat]? = some f∧f ∈ q∧q = p.set u.toNat t:=by
  unfold putO at h
  split at h
  · rename_i h1
    cases h
    exact ⟨h1.1,h1.2,rfl⟩
  · cases h
theorem fits_put {n:Nat} {k:Int} {m:TMove} {p q:List Int} (hp:Fits n p k) (hm:Mv n k m) (h:putO p m.fUnit m.fFrom m.fTo = some q):Fits n q k:=by
  obtain ⟨h1,h2,rfl⟩:=putO_some h
  obtain ⟨u0,u1,f0,f1,t0,t1,hne⟩:=hm
  refine ⟨by rw [List.length_set]; exact hp.1,fun x hx=>?_,fun d d0 d1=>?_⟩
  · rcases List.mem_or_eq_of_mem_set hx with hx | rfl
    · exact hp.2.1 x hx
    · exact ⟨t0,t1⟩
  · by_cases hd:d = m.fFrom
    · rw [hd]; exact h2
    · obtain ⟨j,hj,e⟩:=List.getElem_of_mem (hp.2.2 d d0 d1)
      have hju:j ≠ m.fUnit.toNat:=fun e2=>by
        subst e2
        rw [List.getElem?_eq_getElem hj,e] at h1
        exact hd (Option.some.inj h1)
      exact List.mem_iff_getElem.2 ⟨j,by simpa using hj,by rw [List.getElem_set_ne (Ne.symm hju)]; exact e⟩
theorem put_back {n:Nat} {k:Int} {m:TMove} {p q:List Int} (hp:Fits n p k) (hm:Mv n k m) (h:putO p m.fUnit m.fFrom m.fTo = some q):putO q m.fUnit m.fTo m.fFrom = some p:=by
  obtain ⟨h1,h2,rfl⟩:=putO_some h
  obtain ⟨u0,u1,f0,f1,t0,t1,hne⟩:=hm
  have hu:m.fUnit.toNat < p.length:=by have:=hp.1; omega
  have e:(p.set m.fUnit.toNat m.fTo).set m.fUnit.toNat m.fFrom = p:=by
    rw [List.set_set]
    rw [List.getElem?_eq_getElem hu] at h1
    rw [← Option.some.inj h1,List.set_getElem_self]
  unfold putO
  rw [e,if_pos ⟨by rw [List.getElem?_eq_getElem (by simpa using hu),List.getElem_set_self],hp.2.2 _ t0 t1⟩]
theorem mv_rev {n:Nat} {k:Int} {m:TMove} (h:Mv n k m):Mv n k (revM m):=⟨h.1,h.2.1,h.2.2.2.2.1,h.2.2.2.2.2.1,h.2.2.1,h.2.2.2.1,Ne.symm h.2.2.2.2.2.2⟩
def peo:List TUnit → List Int → Int → Int
  | u :: us,x :: p,d=>(if x = d then u.fPeople else 0) + peo us p d
  | _,_,_=>0
def tlO (us:List TUnit) (p:List Int) (k:Int):List Int:=(List.range k.toNat).map fun d:Nat=>peo us p d
theorem peo_set:∀ {us:List TUnit} {p:List Int} {i:Nat} (h:i < us.length) (h2:i < p.length) (t d:Int),peo us (p.set i t) d = peo us p d - (if p[i] = d then us[i].fPeople else 0) + (if t = d then us[i].fPeople else 0)
  | u :: us,x :: p,0,_,_,t,d=>by simp only [List.set_cons_zero,peo,List.getElem_cons_zero]; omega
  | u :: us,x :: p,i + 1,h,h2,t,d=>by
    have:=peo_set (us:=us) (p:=p) (i:=i) (by simpa using h) (by simpa using h2) t d
    simp only [List.set_cons_succ,peo,List.getElem_cons_succ,this]; omega
theorem tl_len (us:List TUnit) (p:List Int) (k:Int):(tlO us p k).length = k.toNat:=by simp [tlO]
theorem tl_get (us:List TUnit) (p:List Int) (k:Int) (d:Nat) (h:d < (tlO us p k).length):(tlO us p k)[d] = peo us p d:=by simp [tlO]
theorem tl_set {us:List TUnit} {p:List Int} {k f t:Int} {i:Nat} (h:i < us.length) (h2:i < p.length) (hf:p[i] = f) (f0:0 ≤ f) (f1:f < k) (t0:0 ≤ t) (t1:t < k) (hne:f ≠ t) (a:f.toNat < (tlO us p k).length) (b:t.toNat < (tlO us p k).length) :
    tlO us (p.set i t) k = ((tlO us p k).set f.toNat ((tlO us p k)[f.toNat] - us[i].fPeople)).set t.toNat ((tlO us p k)[t.toNat] + us[i].fPeople):=by
  apply List.ext_getElem
  · simp [tlO]
  · intro d h3 h4
    rw [tl_get,peo_set h h2,hf]
    have hd:d < (tlO us p k).length:=by simpa using h4
    by_cases e1:t.toNat = d
    · subst e1
      rw [List.getElem_set_self,tl_get]
      rw [if_neg (by omega),if_pos (by omega)]; omega
    · rw [List.getElem_set_ne e1]
      by_cases e2:f.toNat = d
      · subst e2
        rw [List.getElem_set_self,tl_get]
        rw [if_pos (by omega),if_neg (by omega)]; omega
      · rw [List.getElem_set_ne e2,tl_get,if_neg (by omega),if_neg (by omega)]; omega
structure SOk (us:List TUnit) (n:Nat) (s:TSession):Prop where
  k:1 ≤ s.fK∧s.fK ≤ 8
  fits:Fits n s.fPlan s.fK
  tot:s.fTotals = tlO us s.fPlan s.fK
  dl:s.fDone.length ≤ 200
  dm:∀ m ∈ s.fDone,Mv n s.fK m
  ul:s.fUndone.length ≤ 200
  um:∀ m ∈ s.fUndone,Mv n s.fK m
  db:walkO revM s.fDone.reverse s.fPlan = true
  ub:walkO id s.fUndone.reverse s.fPlan = true
theorem make_valid {us:List TUnit} {n:Nat} {s:TSession} (h:SOk us n s) {m:TMove} (hm:Mv n s.fK m) {q:List Int} (hq:putO s.fPlan m.fUnit m.fFrom m.fTo = some q) (hl:s.fDone.length < 200) :
    SOk us n ⟨s.fK,q,tlO us q s.fK,s.fDone ++ [m],[]⟩:=by
  refine ⟨h.k,fits_put h.fits hm hq,rfl,by simp only [List.length_append,List.length_cons,List.length_nil]; omega,?_,by simp,by simp,?_,rfl⟩
  · intro x hx
    rcases List.mem_append.1 hx with hx | hx
    · exact h.dm x hx
    · rw [List.mem_singleton.1 hx]; exact hm
  · simp only [List.reverse_append,List.reverse_cons,List.reverse_nil,List.nil_append,List.singleton_append,walkO]
    rw [show putO q (revM m).fUnit (revM m).fFrom (revM m).fTo = some s.fPlan from put_back h.fits hm hq]
    exact h.db
theorem undo_valid {us:List TUnit} {n:Nat} {s:TSession} (h:SOk us n s) {l:List TMove} {m:TMove} (hd:s.fDone = l ++ [m]) (hl:s.fUndone.length < 200) :
    ∃ q,putO s.fPlan m.fUnit m.fTo m.fFrom = some q∧SOk us n ⟨s.fK,q,tlO us q s.fK,l,s.fUndone ++ [m]⟩∧putO q m.fUnit m.fFrom m.fTo = some s.fPlan:=by
  have hb:=h.db
  have hm:=h.dm m (by rw [hd]; simp)
  rw [hd] at hb
  simp only [List.reverse_append,List.reverse_cons,List.reverse_nil,List.nil_append,List.singleton_append,walkO] at hb
  rcases hq:putO s.fPlan (revM m).fUnit (revM m).fFrom (revM m).fTo with _ | q
  · rw [hq] at hb; simp at hb
  · rw [hq] at hb
    simp only at hb
    have hback:=put_back h.fits (mv_rev hm) hq
    have hlen:=h.dl
    rw [hd] at hlen
    refine ⟨q,hq,⟨h.k,fits_put h.fits (mv_rev hm) hq,rfl,by simp only [List.length_append,List.length_cons,List.length_nil] at hlen ⊢; omega,fun x hx=>h.dm x (by rw [hd]; exact List.mem_append_left _ hx),by simp only [List.length_append,List.length_cons,List.length_nil]; omega,?_,hb,?_⟩,hback⟩
    · intro x hx
      rcases List.mem_append.1 hx with hx | hx
      · exact h.um x hx
      · rw [List.mem_singleton.1 hx]; exact hm
    · simp only [List.reverse_append,List.reverse_cons,List.reverse_nil,List.nil_append,List.singleton_append,walkO]
      rw [show putO q (id m).fUnit (id m).fFrom (id m).fTo = some s.fPlan from hback]
      exact h.ub
theorem redo_valid {us:List TUnit} {n:Nat} {s:TSession} (h:SOk us n s) {l:List TMove} {m:TMove} (hd:s.fUndone = l ++ [m]) (hl:s.fDone.length < 200) :
    ∃ q,putO s.fPlan m.fUnit m.fFrom m.fTo = some q∧SOk us n ⟨s.fK,q,tlO us q s.fK,s.fDone ++ [m],l⟩∧putO q m.fUnit m.fTo m.fFrom = some s.fPlan:=by
  have hb:=h.ub
  have hm:=h.um m (by rw [hd]; simp)
  rw [hd] at hb
  simp only [List.reverse_append,List.reverse_cons,List.reverse_nil,List.nil_append,List.singleton_append,walkO] at hb
  rcases hq:putO s.fPlan (id m).fUnit (id m).fFrom (id m).fTo with _ | q
  · rw [hq] at hb; simp at hb
  · rw [hq] at hb
    simp only at hb
    have hback:=put_back h.fits hm hq
    have hlen:=h.ul
    rw [hd] at hlen
    refine ⟨q,hq,⟨h.k,fits_put h.fits hm hq,rfl,by simp only [List.length_append,List.length_cons,List.length_nil]; omega,?_,by simp only [List.length_append,List.length_cons,List.length_nil] at hlen ⊢; omega,fun x hx=>h.um x (by rw [hd]; exact List.mem_append_left _ hx),?_,hb⟩,hback⟩
    · intro x hx
      rcases List.mem_append.1 hx with hx | hx
      · exact h.dm x hx
      · rw [List.mem_singleton.1 hx]; exact hm
    · simp only [List.reverse_append,List.reverse_cons,List.reverse_nil,List.nil_append,List.singleton_append,walkO]
      rw [show putO q (revM m).fUnit (revM m).fFrom (revM m).fTo = some s.fPlan from hback]
      exact h.db
def S0:TSession:=⟨0,[],[],[],[]⟩
open Classical in
noncomputable def chkO (us:List TUnit) (n:Nat) (s:TSession):Int:=
  if 1 ≤ s.fK∧s.fK ≤ 8 then if Fits n s.fPlan s.fK then if SOk us n s then 0 else 260 else 210 else 2
open Classical in
noncomputable def makeO (us:List TUnit) (n:Nat) (s:TSession) (u t:Int):TSession × Int:=
  if SOk us n s then
    if 0 ≤ u∧u < n∧0 ≤ t∧t < s.fK∧s.fPlan[u.toNat]! ≠ t then
      match putO s.fPlan u s.fPlan[u.toNat]! t with
      | none=>(S0,4)
      | some q=>if s.fDone.length < 200 then (⟨s.fK,q,tlO us q s.fK,s.fDone ++ [⟨u,s.fPlan[u.toNat]!,t⟩],[]⟩,0) else (S0,3)
    else (S0,2)
  else (S0,chkO us n s)
open Classical in
noncomputable def undoO (us:List TUnit) (n:Nat) (s:TSession):TSession × Int:=
  if SOk us n s then
    match s.fDone.getLast? with
    | none=>(S0,4)
    | some m=>if s.fUndone.length < 200 then
        match putO s.fPlan m.fUnit m.fTo m.fFrom with
        | some q=>(⟨s.fK,q,tlO us q s.fK,s.fDone.dropLast,s.fUndone ++ [m]⟩,0)
        | none=>(S0,260)
      else (S0,3)
  else (S0,chkO us n s)
open Classical in
noncomputable def redoO (us:List TUnit) (n:Nat) (s:TSession):TSession × Int:=
  if SOk us n s then
    match s.fUndone.getLast? with
    | none=>(S0,4)
    | some m=>if s.fDone.length < 200 then
        match putO s.fPlan m.fUnit m.fFrom m.fTo with
        | some q=>(⟨s.fK,q,tlO us q s.fK,s.fDone ++ [m],s.fUndone.dropLast⟩,0)
        | none=>(S0,260)
      else (S0,3)
  else (S0,chkO us n s)
theorem chkO_ok {us:List TUnit} {n:Nat} {s:TSession} (h:SOk us n s):chkO us n s = 0:=by
  unfold chkO; rw [if_pos h.k,if_pos h.fits,if_pos h]
theorem chkO_no {us:List TUnit} {n:Nat} {s:TSession} (h:¬ SOk us n s):chkO us n s ≠ 0:=by
  unfold chkO
  split
  · split
    · first | decide | (rw [if_neg h]; decide)
    · decide
  · decide
end Go.Proofs.YtcijnmkodpfpgaaGreatDoor
