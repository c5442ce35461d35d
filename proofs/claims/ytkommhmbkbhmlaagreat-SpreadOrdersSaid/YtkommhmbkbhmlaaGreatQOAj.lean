/- Plain law: how a distribution's quantiles and its weights below agree. No program in sight but the printed functions. -/
import Derived.Test.YtkommhmbkbhmlaaGreatQOAi
namespace Go.Proofs.YtkommhmbkbhmlaaGreat
open Go
set_option maxRecDepth 8000
theorem mZ:bZ_p FU = some true:=by kernel_rfl
theorem qG {a b:Int} (h0:b ≠ 0) (ha:Sm a) (hb:Sm b):ab_p FU a b = some (Sg (Rat.divInt a b)):=by
 unfold ab_p
 rw [sof h0 ha hb,aa]
theorem q0:ab_p FU 0 1 = some (Sg 0):=qG (by decide) (by unfold Sm; decide) (by unfold Sm; decide)
theorem q1:ab_p FU 1 1 = some (Sg 1):=qG (by decide) (by unfold Sm; decide) (by unfold Sm; decide)
theorem qm:ab_p FU (-1) 1 = some (Sg (-1)):=qG (by decide) (by unfold Sm; decide) (by unfold Sm; decide)
theorem negG {a:Rat} (ha:FQ a) (h:FQ (-a)):cQ_p FU (Sg a) = some (Sg (-a),0):=by
 have hF:=aJ
 unfold cQ_p cN_p
 rw [jb FU a a ha ha hF,aa,if_pos rfl,aZ FU a ha (by omega),aa,aa,turnedG FU 8 a ha.rf (by decide) hF,aa,aa,nK FU _ (by omega),if_pos h,aa]
theorem sum3 {a b c:Rat} (ha:FQ a) (hb:FQ b) (hc:FQ c) (h1:FQ (a + b)) (h2:FQ (a + b + c)):cj_p FU [Sg a,Sg b,Sg c] = some (Sg (a + b + c),0):=by
 have hF:=aJ
 have hv:bw_p FU [Sg a,Sg b,Sg c] = some true:=nc FU [a,b,c] (fun q hq=>by
  rcases List.mem_cons.1 hq with rfl | hq
  ·exact ha
  ·rcases List.mem_cons.1 hq with rfl | hq
   ·exact hb
   ·rw [List.mem_singleton.1 hq]; exact hc) (by simp only [leC,leN]; omega) hF
 have step:∀ (i:Nat) (x y:Rat) (J) (h:[Sg a,Sg b,Sg c][i]? = some (Sg y)),FQ x -> FQ y -> i < 3 -> cj_l1 FU [Sg a,Sg b,Sg c] J (i,(Rt x).fh.fc,(Rt x).fh.fk,(Rt x).fe.fc,(Rt x).fe.fk) = J (i + 1,(Rt (x + y)).fh.fc,(Rt (x + y)).fh.fk,(Rt (x + y)).fe.fc,(Rt (x + y)).fe.fk):=fun i x y J h hx hy hi=>by
  unfold cj_l1
  simp only
  rw [if_pos (by simpa using hi),h,aa,aZ FU y hy (by omega),aa,
   show (⟨⟨(Rt x).fh.fc,(Rt x).fh.fk⟩,⟨(Rt x).fe.fc,(Rt x).fe.fk⟩⟩:Tc) = Rt x from rfl,(iM FU 8 _ _ hx.rf hy.rf (by decide) hF).1,aa]
 obtain ⟨m,hm⟩:∃ m,FU = m + 4:=⟨FU - 4,by omega⟩
 have hl:ap (cj_l1 FU [Sg a,Sg b,Sg c]) FU (0,(Rt 0).fh.fc,(Rt 0).fh.fk,(Rt 0).fe.fc,(Rt 0).fe.fk) = some ((Rt (a + b + c)).fh.fc,(Rt (a + b + c)).fh.fk,(Rt (a + b + c)).fe.fc,(Rt (a + b + c)).fe.fk):=by
  generalize hB:cj_l1 FU [Sg a,Sg b,Sg c] = B at *
  rw [hm,aS,step 0 0 a _ rfl FQ0 ha (by decide),aS,step 1 (0 + a) b _ rfl (by rw [Rat.zero_add]; exact ha) hb (by decide),aS,step 2 (0 + a + b) c _ rfl (by rw [Rat.zero_add]; exact h1) hc (by decide),aS,Rat.zero_add,<- hB]
  rfl
 unfold cj_p
 rw [if_neg (show ¬ 400 < [Sg a,Sg b,Sg c].length from by simp),hv,aa,if_pos rfl,lu,aa,hl,aa]
 simp only
 rw [show (⟨⟨(Rt (a + b + c)).fh.fc,(Rt (a + b + c)).fh.fk⟩,⟨(Rt (a + b + c)).fe.fc,(Rt (a + b + c)).fe.fk⟩⟩:Tc) = Rt (a + b + c) from rfl,iH h2,aa]
theorem addD {a b:Rat} (ha:FQ a) (hb:FQ b) (h:FQ (a + b)):cJ_p FU (Sg a) (Sg b) = some (Sg (a + b),0):=add_q ha hb h aJ
theorem cmpD {a b:Rat} (ha:FQ a) (hb:FQ b):ci_p FU (Sg a) (Sg b) = some (sgn a b,0):=cmpG ha hb
theorem lw_at {T:List (Rat × Rat)} (h:Ds T) {j:Nat} (hj:j < T.length):lw T[j].1 T = sW (T.take j)/\wt T[j].1 T = T[j].2:=by
 refine ⟨?_,dQ h.up.nodup (List.getElem_mem hj)⟩
 suffices ∀ x,x = T[j].1 -> T.filter (fun e=>decide (e.1 < x)) = T.take j from congrArg sW (this _ rfl)
 intro x hx
 conv=>lhs; rw [<- List.take_append_drop j T]
 rw [List.filter_append,List.filter_eq_self.2,List.filter_eq_nil_iff.2,List.append_nil]
 ·intro e he
  obtain ⟨k,hk,rfl⟩:=List.getElem_of_mem he
  rw [List.length_drop] at hk
  rw [List.getElem_drop,decide_eq_true_iff,hx]
  by_cases c:k = 0
  ·subst c; exact Rat.lt_irrefl
  ·have:=jy h.up (i:=j) (j:=j + k) (by omega) (by omega)
   grind
 ·intro e he
  obtain ⟨k,hk,rfl⟩:=List.getElem_of_mem he
  rw [List.length_take] at hk
  rw [List.getElem_take,hx]
  exact decide_eq_true (jy h.up hj (by omega))
theorem sW_mono {T:List (Rat × Rat)} (h:Ds T) {i j:Nat} (hij:i <= j):sW (T.take i) <= sW (T.take j):=by
 have h1:T.take i = (T.take j).take i:=by rw [List.take_take,Nat.min_eq_left hij]
 have h2:sW (T.take j) = sW (T.take i) + sW ((T.take j).drop i):=by
  conv=>lhs; rw [<- List.take_append_drop i (T.take j)]
  rw [gY,<- h1]
 have h3:0 <= sW ((T.take j).drop i):=by
  refine (h.part (A:=(T.take j).drop i) (B:=T.take i ++ T.drop j) ?_).2.1
  rw [<- List.append_assoc]
  refine ((List.perm_append_comm).append_right _).trans ?_
  rw [h1,List.take_append_drop,List.take_append_drop]
 rw [h2]; grind
theorem fX {T:List (Rat × Rat)} (h:Ds T) {x y:Rat} {i j:Nat} (hi:Qn T x i) (hj:Qn T y j) (hxy:x <= y):i <= j:=by
 refine Classical.byContradiction fun hc=>?_
 have h1:=sW_mono h (show j + 1 <= i by omega)
 have h2:=hi.lt
 have h3:=hj.le
 grind
theorem up_le {T:List (Rat × Rat)} (h:Up T) {i j:Nat} (hi:i < T.length) (hj:j < T.length) (hij:i <= j):T[i].1 <= T[j].1:=by
 by_cases c:i = j
 ·subst c; exact Rat.le_refl
 ·have:=jy h hj (show i < j by omega)
  grind
theorem lw_wt (a:Rat):∀ T,lw a T + wt a T = sW (T.filter fun e=>decide (e.1 < a) || decide (e.1 = a))
 | []=>by show (0:Rat) + 0 = 0; grind
 | e :: l=>by
  have ih:=lw_wt a l
  rw [cg] at ih ⊢
  unfold lw at ih ⊢
  rw [List.filter_cons,List.filter_cons,List.filter_cons]
  by_cases c1:e.1 < a
  ·rw [if_pos (by simpa using c1),if_neg (by simp; grind),if_pos (by simp [c1])]
   show e.2 + _ + _ = e.2 + _
   rw [<- ih]; grind
  ·by_cases c2:e.1 = a
   ·rw [if_neg (by simpa using c1),if_pos (by simpa using c2),if_pos (by simp [c2])]
    show _ + (e.2 + _) = e.2 + _
    rw [<- ih]; grind
   ·rw [if_neg (by simpa using c1),if_neg (by simpa using c2),if_neg (by simp [c1,c2])]
    exact ih
theorem fW (a0:Ti) (a1 a2:Th):bs_p FU a0 a1 a2 = some true:=by
 have hF:=aJ
 obtain ⟨T,e1,h⟩:=spreadD a0
 obtain ⟨a,e2,ha⟩:=nQ a1
 obtain ⟨u,e3,hu⟩:=unitD a1
 obtain ⟨v,e4,hv⟩:=unitD a2
 have fa:=ha.bt.q
 have fna:=ha.bt.neg.q
 have fu:=hu.bt.q
 have fv:=hv.bt.q
 obtain ⟨u0,u1⟩:=hu.le
 obtain ⟨v0,v1⟩:=hv.le
 have hs:=lw_neg h a
 have f1:=h.lw_fq a T.length
 rw [List.take_length] at f1
 have f2:=h.wt_fq a
 have f3:=h.neg.lw_fq (-a) (neg T).length
 rw [List.take_length] at f3
 have f12:FQ (lw a T + wt a T):=by
  have hp:=h.part (ep (fun e=>decide (e.1 < a) || decide (e.1 = a)) T T.length)
  rw [List.take_length] at hp
  have e:=lw_wt a T
  rw [e]; exact hp.1
 unfold bs_p jn
 rw [mZ,aa,if_pos rfl,e1,aa,e2,aa,e3,aa,kK h fa,aa,qm,aa,negD h,aa,negG fa fna,aa]
 simp only
 rw [kK h.neg fna,aa,sum3 f1 f2 f3 f12 (by rw [hs]; exact FQ1),aa]
 simp only
 rw [if_pos trivial,if_pos trivial,if_pos trivial,if_pos trivial,wt_neg,if_pos rfl,q1,aa,hs,decide_eq_true rfl]
 rw [if_neg (by decide)]
 by_cases cu:u = 0
 ·subst cu
  rw [quant0 h,aa,q0,aa,if_pos rfl]
  unfold bA_p
  show ((if noS = noS then some (decide ((2:Int) = 2)) else some false).bind fun y=>some y) = some true
  rw [if_pos rfl]; rfl
 ·have cu' : 0 < u:=by grind
  obtain ⟨j,hj,k1,k2⟩:=mJ h fu cu' u1
  obtain ⟨l1,l2⟩:=lw_at h hj
  have fj:=h.fq _ (List.getElem_mem hj)
  have g1:=(h.part (cp T j)).1
  have g2:=(h.part (cp T (j + 1))).1
  rw [gh hj] at g2
  rw [k1,aa,q0,aa,if_neg (fun hc=>cu (gV fu FQ0 hc))]
  simp only
  rw [kK h fj.1,aa,l1,l2]
  simp only
  rw [addD g1 fj.2 g2,aa]
  simp only
  rw [cmpD g2 fu,aa,cmpD g1 fu,aa]
  have b1:¬ sgn (sW (T.take j) + T[j].2) u < 0:=fun hc=>by
   have:=bF.1 hc
   have h2:=k2.le
   rw [gh hj] at h2
   grind
  have b2:¬ 0 <= sgn (sW (T.take j)) u:=fun hc=>by
   have:=bF.2 k2.lt
   omega
  simp only
  rw [if_pos trivial,if_pos trivial,if_pos trivial,if_pos trivial,if_pos trivial,if_neg b1,if_neg b2,aa]
  rw [if_neg (by
   rw [decide_eq_true_iff]
   intro hc
   have:=gV fj.2 FQ0 hc
   have hp:=h.pos _ (List.getElem_mem hj)
   grind)]
  rw [e4,aa,aa]
  by_cases cv:v = 0
  ·subst cv
   rw [if_pos rfl]
  ·have cv' : 0 < v:=by grind
   obtain ⟨i,hi,m1,m2⟩:=mJ h fv cv' v1
   have fi:=h.fq _ (List.getElem_mem hi)
   rw [if_neg (fun hc=>cv (gV fv FQ0 hc)),m1,aa,cmpD fu fv,aa]
   simp only
   rw [cmpD fj.1 fi.1,aa]
   simp only
   rw [if_pos trivial,if_pos trivial,if_pos trivial]
   by_cases c1:u < v
   ·have hij:=up_le h.up hj hi (fX h k2 m2 (by grind))
    rw [if_pos (bF.2 c1),if_pos]
    exact Int.not_lt.1 fun hc=>by have:=dZ.1 hc; grind
   ·rw [if_neg (fun hc=>c1 (bF.1 hc))]
    by_cases c2:v < u
    ·have hij:=up_le h.up hi hj (fX h m2 k2 (by grind))
     rw [if_pos (dZ.2 c2),if_pos]
     exact Int.not_lt.1 fun hc=>by have:=bF.1 hc; grind
    ·have e:u = v:=by grind
     subst e
     have hij:i = j:=Nat.le_antisymm (fX h m2 k2 Rat.le_refl) (fX h k2 m2 Rat.le_refl)
     subst hij
     rw [if_neg (fun hc=>c2 (dZ.1 hc)),if_pos (cx.2 rfl),decide_eq_true (cx.2 rfl)]
theorem fV (a0:Ti) (a1 a2:Th):∃ n,bs_p n a0 a1 a2 = some true:=⟨FU,fW a0 a1 a2⟩
end Go.Proofs.YtkommhmbkbhmlaaGreat
