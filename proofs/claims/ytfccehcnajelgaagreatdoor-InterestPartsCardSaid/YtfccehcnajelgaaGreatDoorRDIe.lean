/- Plain laws: the parts of a community. No program in sight but the printed functions. -/
import Derived.Test.YtfccehcnajelgaaGreatDoorRDIc
import Derived.Test.YtfccehcnajelgaaGreatDoorRDBt
namespace Go.Proofs.YtfccehcnajelgaaGreatDoor
open Go
set_option maxRecDepth 8000
theorem tz_tab:∀ t,t < 64 → tab0[(shrU (shlU 1 t * (285870213051353865:UInt64)) 58).toNat]? = some (UInt8.ofNat t):=by decide +kernel
theorem tz_eq (n:Nat) {u:UInt64} (h:u ≠ 0):math_bits_TrailingZeros64_p n u = some ((low u:Nat):Int):=by
  unfold math_bits_TrailingZeros64_p
  have hl:low u < 64:=bit_lt (low_bit h)
  rw [if_neg h,and_neg64 h,tz_tab _ hl]
  simp only [obind]
  rw [UInt8.toNat_ofNat_of_lt' (by show _ < 256; omega)]
theorem bits_loop {σ β:Type} {B:(UInt64 × σ → Option β) → UInt64 × σ → Option β} (R:σ → β) (F:Nat → σ → Option σ) (hB:∀ J (u:UInt64) s,B J (u,s) = if u = 0 then some (R s) else (F (low u) s).bind fun s' =>J (u &&& (u - 1),s')) :
    ∀ (m n:Nat) (u:UInt64) (s:σ),(bitsL u).length ≤ m → m < n → loopF B n (u,s) = ((bitsL u).foldlM (fun s t=>F t s) s).map R:=by
  intro m
  induction m with
  | zero=>
    intro n u s hm hn
    obtain ⟨k,rfl⟩:∃ k,n = k + 1:=⟨n - 1,by omega⟩
    have hu:u = 0:=Classical.byContradiction fun hne=>by rw [bitsL_cons hne] at hm; simp at hm
    show B (loopF B k) (u,s) = _
    rw [hB,if_pos hu,hu,bitsL_zero]
    rfl
  | succ m ih=>
    intro n u s hm hn
    obtain ⟨k,rfl⟩:∃ k,n = k + 1:=⟨n - 1,by omega⟩
    show B (loopF B k) (u,s) = _
    rw [hB]
    by_cases hu:u = 0
    · rw [if_pos hu,hu,bitsL_zero]; rfl
    · rw [if_neg hu,bitsL_cons hu,List.foldlM_cons]
      have hl:(bitsL (u &&& (u - 1))).length ≤ m:=by rw [bitsL_cons hu] at hm; simpa using hm
      cases F (low u) s with
      | none=>rfl
      | some s' =>exact ih k _ s' hl (by omega)
def pmf (p:List Int) (d:Int) (is:List Nat) (m:UInt64):UInt64:=is.foldl (fun m i=>if p[i]? = some d then m ||| shlU 1 i else m) m
theorem bit_pmf (p:List Int) (d:Int) (j:Nat):∀ (is:List Nat) (m:UInt64),(∀ i ∈ is,i < 64) → bit (pmf p d is m) j = (bit m j || (decide (j ∈ is) && decide (p[j]? = some d)))
  | [],m,_=>by simp [pmf]
  | i :: is,m,h=>by
    have hi:=h i (List.mem_cons_self ..)
    have ih:=bit_pmf p d j is (if p[i]? = some d then m ||| shlU 1 i else m) fun x hx=>h x (List.mem_cons_of_mem _ hx)
    show bit (pmf p d is (if p[i]? = some d then m ||| shlU 1 i else m)) j = _
    rw [ih]
    by_cases hp:p[i]? = some d
    · rw [if_pos hp,bit_or,bit_one hi]
      by_cases e:j = i
      · subst e; simp [hp]
      · simp [e]
    · rw [if_neg hp]
      by_cases e:j = i
      · subst e; simp [hp]
      · simp [e]
def pm (u:UInt64) (p:List Int) (d:Int):UInt64:=pmf p d (bitsL u) 0
theorem bit_pm (u:UInt64) (p:List Int) (d:Int) (j:Nat):bit (pm u p d) j = (bit u j && decide (p[j]? = some d)):=by
  unfold pm
  rw [bit_pmf p d j _ _ fun i hi=>bit_lt (mem_bitsL.1 hi),bit_zero,Bool.false_or]
  congr 1
  rw [Bool.eq_iff_iff,decide_eq_true_eq]
  exact mem_bitsL
def prt (u:UInt64) (p:List Int) (k:Nat):List UInt64:=((List.range k).map fun d:Nat=>pm u p (d:Int)).filter fun m=>decide (m ≠ 0)
theorem parts_fold (p:List Int) (k:Nat) (hp:∀ x ∈ p,0 ≤ x∧x < (k:Int)):∀ (is:List Nat) (f:Nat → UInt64),(∀ i ∈ is,i < p.length) →
    is.foldlM (fun (xs:List UInt64) (t:Nat)=>(idx p ((t:Nat):Int)).bind fun x341=>(idx xs x341).bind fun x353=>(natOf ((t:Nat):Int)).bind fun k368=>put xs ((x341.toNat:Nat):Int) (x353 ||| (shlU (1:UInt64) k368))) ((List.range k).map f) = some ((List.range k).map fun d:Nat=>pmf p (d:Int) is (f d))
  | [],f,_=>rfl
  | i :: is,f,h=>by
    have hi:=h i (List.mem_cons_self ..)
    obtain ⟨x0,x1⟩:=hp p[i] (List.getElem_mem hi)
    obtain ⟨d,hd⟩:∃ d:Nat,p[i] = (d:Int):=⟨p[i].toNat,by omega⟩
    have hdk:d < k:=by omega
    have hl:d < ((List.range k).map f).length:=by simpa using hdk
    have hn:natOf (i:Int) = some i:=by unfold natOf; rw [if_pos (by omega),Int.toNat_natCast]
    rw [List.foldlM_cons]
    have e1:idx p (i:Int) = some (d:Int):=by rw [← hd]; exact idx_ok (i:=(i:Int)) (by omega) hi
    have e2:idx ((List.range k).map f) (d:Int) = some (f d):=by
      rw [idx_ok (i:=(d:Int)) (by omega) hl]; simp
    rw [e1,obind,e2,obind,hn,obind,Int.toNat_natCast,put_ok _ hl]
    have e3:((List.range k).map f).set d (f d ||| shlU 1 i) = (List.range k).map fun e:Nat=>if p[i]? = some (e:Int) then f e ||| shlU 1 i else f e:=by
      refine List.ext_getElem (by simp) fun j h1 h2=>?_
      rw [List.getElem_set]
      simp only [List.getElem_map,List.getElem_range]
      rw [List.getElem?_eq_getElem hi,hd]
      by_cases e:d = j
      · subst e; simp
      · rw [if_neg e,if_neg (by simp only [Option.some.injEq]; omega)]
    rw [e3]
    exact parts_fold p k hp is _ fun x hx=>h x (List.mem_cons_of_mem _ hx)
theorem vparts27_ok (r:TRoll) (p:List Int) (k:Nat) (c:TInterest) (hk:k ≤ 8) (hp:∀ x ∈ p,0 ≤ x∧x < (k:Int)) (hu:∀ i,bit c.fo i = true → i < p.length):interest_view_parts_p FU ⟨r,p,(k:Int)⟩ c = some (prt c.fo p k):=by
  have hF:=FU_lt
  unfold interest_view_parts_p
  simp only
  rw [mk_ok k _ (by omega),obind]
  have h1:=bits_loop (B:=interest_view_parts_l2 FU ⟨r,p,(k:Int)⟩) (fun s:List UInt64=>s) (fun (t:Nat) (xs:List UInt64)=>(idx p ((t:Nat):Int)).bind fun x341=>(idx xs x341).bind fun x353=>(natOf ((t:Nat):Int)).bind fun k368=>put xs ((x341.toNat:Nat):Int) (x353 ||| (shlU (1:UInt64) k368))) (fun J u s=>by
    unfold interest_view_parts_l2
    simp only
    by_cases h0:u = 0
    · rw [if_pos h0,if_pos h0]
    · rw [if_neg h0,if_neg h0,tz_eq FU h0,obind]
      cases idx p ((low u:Nat):Int) with
      | none=>rfl
      | some x=>simp only [obind]; cases idx s x with
        | none=>rfl
        | some y=>rfl) 64 FU c.fo (List.replicate k 0) (bitsL_len _) (by omega)
  have e0:List.replicate k (0:UInt64) = (List.range k).map fun _=>0:=by
    refine List.ext_getElem (by simp) fun j h1 h2=>by simp
  rw [h1,e0,parts_fold p k hp _ _ fun i hi=>hu i (mem_bitsL.1 hi)]
  show Option.bind (some ((List.range k).map fun d:Nat=>pm c.fo p (d:Int))) _ = _
  rw [obind]
  unfold prt
  generalize hX:((List.range k).map fun d:Nat=>pm c.fo p (d:Int)) = X
  have hXl:X.length = k:=by rw [← hX]; simp
  clear hX h1 e0
  have hh:=loop_ok (B:=interest_view_parts_l1 FU X) (fun s:Nat × List UInt64=>X.length - s.1) (fun s=>s.1 ≤ X.length∧s.2 = (X.take s.1).filter fun m=>decide (m ≠ 0)) (fun y=>y = X.filter fun m=>decide (m ≠ 0)) ?_ FU (0,[]) ⟨Nat.zero_le _,rfl⟩ (by simp only; omega)
  · obtain ⟨y,e,rfl⟩:=hh
    rw [e,obind]
  · rintro ⟨i,xs⟩ J ⟨a1,a2⟩ hJ
    simp only at a1 a2 hJ
    subst a2
    unfold interest_view_parts_l1
    simp only
    by_cases hi:i < X.length
    · have hlen:((X.take i).filter fun m=>decide (m ≠ 0)).length ≤ 8:=Nat.le_trans (List.length_filter_le ..) (by rw [List.length_take]; omega)
      have next:=hJ (i + 1,(X.take (i + 1)).filter fun m=>decide (m ≠ 0)) ⟨hi,rfl⟩ (by simp only; omega)
      rw [List.take_succ_eq_append_getElem hi,List.filter_append] at next
      rw [if_pos hi,List.getElem?_eq_getElem hi,obind]
      by_cases h0:X[i] = 0
      · rw [if_pos h0]
        rw [List.filter_cons_of_neg (by simpa using h0),List.filter_nil,List.append_nil] at next
        exact next
      · rw [if_neg h0,appS _ _ (by simp only [List.length_cons,List.length_nil]; omega),obind]
        rw [List.filter_cons_of_pos (by simpa using h0),List.filter_nil] at next
        exact next
    · rw [if_neg hi]
      exact ⟨_,rfl,by rw [List.take_of_length_le (by omega)]⟩
def ws (w:Nat → Int) (u:UInt64):Int:=((bitsL u).map w).sum
theorem ws_zero (w:Nat → Int):ws w 0 = 0:=by unfold ws; rw [bitsL_zero]; rfl
theorem sum_nn {l:List Nat} {w:Nat → Int} (h:∀ i ∈ l,0 ≤ w i):0 ≤ (l.map w).sum:=by
  induction l with
  | nil=>simp
  | cons i l ih=>
    have h1:=h i (List.mem_cons_self ..)
    have h2:=ih fun x hx=>h x (List.mem_cons_of_mem _ hx)
    rw [List.map_cons,List.sum_cons]; omega
theorem sum_le {l:List Nat} {w:Nat → Int} {B:Int} (h:∀ i ∈ l,w i ≤ B):(l.map w).sum ≤ B * l.length:=by
  induction l with
  | nil=>simp
  | cons i l ih=>
    have h1:=h i (List.mem_cons_self ..)
    have h2:=ih fun x hx=>h x (List.mem_cons_of_mem _ hx)
    rw [List.map_cons,List.sum_cons,List.length_cons]
    have:B * ((l.length + 1:Nat):Int) = B * l.length + B:=by rw [Int.natCast_add,Int.mul_add]; omega
    omega
theorem ws_nn {w:Nat → Int} {u:UInt64} (h:∀ i,bit u i = true → 0 ≤ w i):0 ≤ ws w u:=sum_nn fun i hi=>h i (mem_bitsL.1 hi)
theorem ws_le {w:Nat → Int} {u:UInt64} {B:Int} (hB:0 ≤ B) (h:∀ i,bit u i = true → w i ≤ B):ws w u ≤ B * 64:=by
  have h1:=sum_le (l:=bitsL u) (w:=w) (B:=B) fun i hi=>h i (mem_bitsL.1 hi)
  have h2:=bitsL_len u
  have h3:B * ((bitsL u).length:Int) ≤ B * 64:=Int.mul_le_mul_of_nonneg_left (by omega) hB
  unfold ws
  omega
def ppo (r:TRoll) (i:Nat):Int:=((r.fo[i]?).map (·.fE)).getD 0
theorem people_fold (r:TRoll) (hp:∀ u ∈ r.fo,0 ≤ u.fE∧u.fE ≤ 1000000000):∀ (is:List Nat) (s:Int),(∀ i ∈ is,i < r.fo.length) → 0 ≤ s → s + 1000000000 * is.length ≤ 1000000000000 →
    is.foldlM (fun (z:Int) (t:Nat)=>(idx r.fo ((t:Nat):Int)).bind fun x152=>(chk (z + x152.fE)).bind fun s169=>some s169) s = some (s + (is.map (ppo r)).sum)
  | [],s,_,_,_=>by simp
  | i :: is,s,h,h0,h1=>by
    have hi:=h i (List.mem_cons_self ..)
    obtain ⟨p0,p1⟩:=hp r.fo[i] (List.getElem_mem hi)
    have e1:idx r.fo (i:Int) = some r.fo[i]:=idx_ok (i:=(i:Int)) (by omega) hi
    have e2:ppo r i = r.fo[i].fE:=by unfold ppo; rw [List.getElem?_eq_getElem hi]; rfl
    rw [List.length_cons] at h1
    rw [List.foldlM_cons,e1,obind,chkI (by omega) (by omega),obind]
    show is.foldlM _ (s + r.fo[i].fE) = _
    rw [people_fold r hp is _ (fun x hx=>h x (List.mem_cons_of_mem _ hx)) (by omega) (by omega),List.map_cons,List.sum_cons,e2]
    congr 1; omega
theorem people27_ok (r:TRoll) (p:List Int) (k:Int) (m:UInt64) (hp:∀ u ∈ r.fo,0 ≤ u.fE∧u.fE ≤ 1000000000) (hm:∀ i,bit m i = true → i < r.fo.length):interest_view_largest_1_p FU m ⟨r,p,k⟩ = some (ws (ppo r) m):=by
  have hF:=FU_lt
  have hl:=bitsL_len m
  unfold interest_view_largest_1_p
  have h1:=bits_loop (B:=interest_view_largest_1_l1 FU ⟨r,p,k⟩) (fun s:Int=>s) (fun (t:Nat) (z:Int)=>(idx r.fo ((t:Nat):Int)).bind fun x152=>(chk (z + x152.fE)).bind fun s169=>some s169) (fun J u s=>by
    unfold interest_view_largest_1_l1
    simp only
    by_cases h0:u = 0
    · rw [if_pos h0,if_pos h0]
    · rw [if_neg h0,if_neg h0,tz_eq FU h0,obind]
      cases idx r.fo ((low u:Nat):Int) with
      | none=>rfl
      | some x=>simp only [obind]; cases chk (s + x.fE) with
        | none=>rfl
        | some y=>rfl) 64 FU m 0 hl (by omega)
  rw [h1,people_fold r hp _ 0 (fun i hi=>hm i (mem_bitsL.1 hi)) (by omega) (by omega)]
  show Option.bind (some (0 + ws (ppo r) m)) _ = _
  rw [obind,Int.zero_add]
theorem pc_snoc27 (i x:Nat):pc (i + 1) x = pc i x + x / 2 ^ i % 2:=by
  rw [pc_add]; rfl
theorem pc_filter (x:Nat):∀ i,pc i x = ((List.range i).filter fun j=>x.testBit j).length
  | 0=>rfl
  | i + 1=>by
    rw [pc_snoc27,pc_filter x i,List.range_succ,List.filter_append,List.length_append]
    congr 1
    by_cases hb:x / 2 ^ i % 2 = 1
    · rw [List.filter_cons_of_pos (by rw [Nat.testBit_eq_decide_div_mod_eq]; simpa using hb),hb]; rfl
    · rw [List.filter_cons_of_neg (by rw [Nat.testBit_eq_decide_div_mod_eq]; simpa using hb)]
      exact (Nat.mod_two_eq_zero_or_one _).resolve_right hb
theorem pc_bits (u:UInt64):((pc 64 u.toNat:Nat):Int) = ws (fun _=>1) u:=by
  rw [pc_filter]
  have key:∀ l:List Nat,(l.map fun _=>(1:Int)).sum = l.length:=fun l=>by
    induction l with
    | nil=>rfl
    | cons i l ih=>rw [List.map_cons,List.sum_cons,ih,List.length_cons]; omega
  unfold ws
  rw [key]
  rfl
theorem ones27 (u:UInt64):math_bits_OnesCount64_p FU u = some (ws (fun _=>1) u):=by rw [ones_ok,pc_bits]
/-! ### Sums over the parts -/
theorem bitsL_pm (u:UInt64) (p:List Int) (d:Int):bitsL (pm u p d) = (bitsL u).filter fun i=>decide (p[i]? = some d):=by
  unfold bitsL
  rw [List.filter_filter]
  refine List.filter_congr fun i _=>?_
  rw [bit_pm,Bool.and_comm]
theorem sum_filter (w:Nat → Int) (f:Nat → Bool):∀ l:List Nat,((l.filter f).map w).sum = (l.map fun i=>if f i = true then w i else 0).sum
  | []=>rfl
  | i :: l=>by
    by_cases h:f i = true
    · rw [List.filter_cons_of_pos h,List.map_cons,List.map_cons,List.sum_cons,List.sum_cons,if_pos h,sum_filter w f l]
    · rw [List.filter_cons_of_neg h,List.map_cons,List.sum_cons,if_neg h,sum_filter w f l,Int.zero_add]
theorem sum_at (y:Int) (x:Nat):∀ k,((List.range k).map fun d:Nat=>if x = d then y else 0).sum = if x < k then y else 0
  | 0=>rfl
  | k + 1=>by
    rw [List.range_succ,List.map_append,List.sum_append,sum_at y x k]
    simp only [List.map_cons,List.map_nil,List.sum_cons,List.sum_nil]
    by_cases h:x < k
    · rw [if_pos h,if_neg (by omega),if_pos (by omega)]; omega
    · by_cases e:x = k
      · rw [if_neg h,if_pos e,if_pos (by omega)]; omega
      · rw [if_neg h,if_neg e,if_neg (by omega)]; omega
theorem sum_add2 (f g:Nat → Int):∀ l:List Nat,(l.map fun x=>f x + g x).sum = (l.map f).sum + (l.map g).sum
  | []=>rfl
  | x :: l=>by simp only [List.map_cons,List.sum_cons,sum_add2 f g l]; omega
theorem sum_parts (w:Nat → Int) (p:List Int) (k:Nat) (hp:∀ x ∈ p,0 ≤ x∧x < (k:Int)):∀ is:List Nat,(∀ i ∈ is,i < p.length) → ((List.range k).map fun d:Nat=>(is.map fun i=>if decide (p[i]? = some (d:Int)) = true then w i else 0).sum).sum = (is.map w).sum
  | [],_=>by
    have:∀ k,((List.range k).map fun _:Nat=>(0:Int)).sum = 0:=fun k=>by
      induction k with
      | zero=>rfl
      | succ k ih=>rw [List.range_succ,List.map_append,List.sum_append,ih]; rfl
    simpa using this k
  | i :: is,h=>by
    have hi:=h i (List.mem_cons_self ..)
    obtain ⟨x0,x1⟩:=hp p[i] (List.getElem_mem hi)
    obtain ⟨d,hd⟩:∃ d:Nat,p[i] = (d:Int):=⟨p[i].toNat,by omega⟩
    have ih:=sum_parts w p k hp is fun x hx=>h x (List.mem_cons_of_mem _ hx)
    simp only [List.map_cons,List.sum_cons]
    rw [sum_add2,ih]
    have e:((List.range k).map fun e:Nat=>if decide (p[i]? = some (e:Int)) = true then w i else 0) = (List.range k).map fun e:Nat=>if d = e then w i else 0:=List.map_congr_left fun e _=>by
      rw [List.getElem?_eq_getElem hi,hd]
      by_cases h1:d = e
      · subst h1; rw [if_pos (by simp),if_pos rfl]
      · rw [if_neg (by simp only [decide_eq_true_eq,Option.some.injEq]; omega),if_neg h1]
    rw [e,sum_at,if_pos (by omega)]
theorem sum_nz (w:Nat → Int):∀ l:List UInt64,((l.filter fun m=>decide (m ≠ 0)).map (ws w)).sum = (l.map (ws w)).sum
  | []=>rfl
  | m :: l=>by
    by_cases h:m = 0
    · subst h; rw [List.filter_cons_of_neg (by simp),List.map_cons,List.sum_cons,ws_zero,sum_nz w l,Int.zero_add]
    · rw [List.filter_cons_of_pos (by simpa using h),List.map_cons,List.sum_cons,List.map_cons,List.sum_cons,sum_nz w l]
theorem prt_sum (w:Nat → Int) (u:UInt64) (p:List Int) (k:Nat) (hp:∀ x ∈ p,0 ≤ x∧x < (k:Int)) (hu:∀ i,bit u i = true → i < p.length):((prt u p k).map (ws w)).sum = ws w u:=by
  unfold prt
  rw [sum_nz,List.map_map]
  have e:(ws w ∘ fun d:Nat=>pm u p (d:Int)) = fun d:Nat=>((bitsL u).map fun i=>if decide (p[i]? = some (d:Int)) = true then w i else 0).sum:=funext fun d=>by
    show ws w (pm u p (d:Int)) = _
    unfold ws
    rw [bitsL_pm,sum_filter]
  rw [e]
  exact sum_parts w p k hp _ fun i hi=>hu i (mem_bitsL.1 hi)
end Go.Proofs.YtfccehcnajelgaaGreatDoor
