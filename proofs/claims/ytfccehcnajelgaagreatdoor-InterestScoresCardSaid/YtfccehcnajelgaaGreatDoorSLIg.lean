/- Plain laws: lists of communities, checked by both. No program in sight but the printed functions. -/
import Derived.Test.YtfccehcnajelgaaGreatDoorSLIb
import Derived.Test.YtfccehcnajelgaaGreatDoorSFw
import Derived.Lib.TrailingZeros
namespace Go.Proofs.YtfccehcnajelgaaGreatDoor
open Go
set_option maxRecDepth 8000
theorem thnI {α β:Type} (x:β) (K:β → Option α):thn (some (Sum.inr x)) K = K x:=rfl
def NmB (s:ByteArray):Prop:=∀ (i:Nat) (h:i < s.data.size),32 ≤ s.data[i].toNat∧s.data[i].toNat ≤ 126
theorem sidx_ok {s:ByteArray} {i:Nat} (h:i < s.data.size):sidx s (i:Int) = some s.data[i]:=by
  unfold sidx
  rw [if_pos (by omega),Int.toNat_natCast,Array.getElem?_eq_getElem h]
theorem right_loop (c:TInterest) (hs:c.fp.size ≤ 1000):∃ y,loopF (interest_right_l1 FU c) FU 0 = some y∧(y = .inr ()∧NmB c.fp ∨ y = .inl false∧¬ NmB c.fp):=by
  have hF:=FU_lt
  have hsz:c.fp.size = c.fp.data.size:=rfl
  refine loop_ok (B:=interest_right_l1 FU c) (fun z:Int=>c.fp.size - z.toNat) (fun z=>0 ≤ z∧z ≤ c.fp.size∧∀ (i:Nat) (h:i < c.fp.data.size),(i:Int) < z → 32 ≤ c.fp.data[i].toNat∧c.fp.data[i].toNat ≤ 126) _ ?_ FU 0 ⟨by omega,by omega,fun i _ h=>by omega⟩ (by omega)
  rintro z J ⟨z0,z1,z2⟩ hJ
  obtain ⟨i,rfl⟩:∃ i:Nat,z = (i:Int):=⟨z.toNat,by omega⟩
  unfold interest_right_l1
  simp only
  by_cases hi:(i:Int) < c.fp.size
  · have hi2:i < c.fp.data.size:=by omega
    rw [if_pos (by omega),sidx_ok hi2,obind]
    by_cases c1:c.fp.data[i].toNat < 32
    · rw [if_pos c1]; exact ⟨_,rfl,.inr ⟨rfl,fun h=>by have:=h i hi2; omega⟩⟩
    · rw [if_neg c1,obind]
      by_cases c2:126 < c.fp.data[i].toNat
      · rw [if_pos c2]; exact ⟨_,rfl,.inr ⟨rfl,fun h=>by have:=h i hi2; omega⟩⟩
      · rw [if_neg c2,chkI (by omega) (by omega),obind]
        refine hJ _ ⟨by omega,by omega,fun j hj hjz=>?_⟩ (by omega)
        by_cases e:j = i
        · subst e; omega
        · exact z2 j hj (by omega)
  · rw [if_neg (by omega)]
    exact ⟨_,rfl,.inl ⟨rfl,fun j hj=>z2 j hj (by omega)⟩⟩
def CV (n:Int) (c:TInterest):Prop:=(NmB c.fp∧1 ≤ c.fp.size∧c.fp.size ≤ 24)∧0 ≤ c.fx∧c.fx ≤ 1000∧c.fo ≠ 0∧(bln c.fo.toNat:Int) ≤ n
theorem empty_iff (s:ByteArray):s = ⟨#[]⟩ ↔ s.size = 0:=by
  constructor
  · rintro rfl; rfl
  · intro h
    cases s with
    | mk d=>exact congrArg ByteArray.mk (Array.eq_empty_of_size_eq_zero h)
open Classical in
theorem right_okI (n:Int) (c:TInterest) (hs:c.fp.size ≤ 1000):interest_right_p FU c n = some (decide (CV n c)):=by
  obtain ⟨y,e,hy⟩:=right_loop c hs
  unfold interest_right_p
  rw [e]
  rcases hy with ⟨rfl,h⟩ | ⟨rfl,h⟩
  · show (if c.fp = ⟨#[]⟩ then some false else _) = _
    by_cases h1:c.fp = ⟨#[]⟩
    · rw [if_pos h1,decide_eq_false fun hc=>by have:=(empty_iff _).1 h1; have:=hc.1.2.1; omega]
    have h1' : 1 ≤ c.fp.size:=Nat.pos_of_ne_zero fun e=>h1 ((empty_iff _).2 e)
    rw [if_neg h1]
    by_cases h2:c.fp.size ≤ 24
    · rw [if_pos h2]
      by_cases h3:0 ≤ c.fx
      · rw [if_pos h3]
        by_cases h4:c.fx ≤ 1000
        · rw [if_pos h4]
          by_cases h5:c.fo = 0
          · rw [if_pos h5,decide_eq_false fun hc=>hc.2.2.2.1 h5]
          · rw [if_neg h5,len64_ok,obind]
            exact congrArg some (decide_eq_decide.2 ⟨fun h6=>⟨⟨h,h1', h2⟩,h3,h4,h5,h6⟩,fun hc=>hc.2.2.2.2⟩)
        · rw [if_neg h4,decide_eq_false fun hc=>h4 hc.2.2.1]
      · rw [if_neg h3,decide_eq_false fun hc=>h3 hc.2.1]
    · rw [if_neg h2,decide_eq_false fun hc=>h2 hc.1.2.2]
  · show some false = _
    rw [decide_eq_false fun hc=>h hc.1.1]
structure IV (n:Int) (l:List TInterest):Prop where
  u:∀ i (h:i < l.length),CV n l[i]
  d:∀ i (h:i < l.length) j (h' : j < i),l[j].fp ≠ l[i].fp
open Classical in
theorem checkI_eq (n:Int) (l:List TInterest) (hs:∀ c ∈ l,c.fp.size ≤ 1000):interest_Check_p FU n l = some (if n < 1 then 2 else if 64 < n then 2 else if 20 < l.length then 3 else if IV n l then 0 else 270):=by
  have hF:=FU_lt
  unfold interest_Check_p
  by_cases c1:n < 1
  · rw [if_pos c1,if_pos c1]
  by_cases c2:64 < n
  · rw [if_neg c1,if_neg c1,if_pos c2,if_pos c2]
  by_cases c3:20 < l.length
  · rw [if_neg c1,if_neg c1,if_neg c2,if_neg c2,if_pos c3,if_pos c3]
  rw [if_neg c1,if_neg c1,if_neg c2,if_neg c2,if_neg c3,if_neg c3]
  have hh:=loop_ok (B:=interest_Check_l1 FU l n) (fun s:Nat × List (ByteArray × Bool)=>l.length - s.1)
    (fun s=>s.1 ≤ l.length∧(∀ x,mgetD s.2 x false = true ↔ ∃ j,∃ hj:j < l.length,j < s.1∧l[j].fp = x)∧(∀ i (h:i < l.length),i < s.1 → CV n l[i])∧(∀ i (h:i < l.length) j (h' : j < i),i < s.1 → l[j].fp ≠ l[i].fp))
    (fun y=>y = .inr ()∧IV n l ∨ y = .inl 270∧¬ IV n l) ?_ FU (0,[]) ⟨Nat.zero_le _,fun x=>⟨fun hx=>by simp [mgetD,mget] at hx,fun ⟨j,_,hj,_⟩=>by simp at hj⟩,fun i _ hi=>by simp at hi,fun i _ j _ hi=>by simp at hi⟩ (by simp only; omega)
  · obtain ⟨y,e,hy⟩:=hh
    rw [e]
    rcases hy with ⟨rfl,hv⟩ | ⟨rfl,hv⟩
    · rw [if_pos hv]; rfl
    · rw [if_neg hv]; rfl
  · rintro ⟨i,D⟩ J ⟨a1,a2,a3,a4⟩ hJ
    simp only at a1 a2 a3 a4 hJ
    unfold interest_Check_l1
    simp only
    by_cases hi:i < l.length
    · rw [if_pos hi,List.getElem?_eq_getElem hi,obind]
      by_cases hd:mgetD D l[i].fp false = true
      · rw [if_pos hd]
        obtain ⟨j,hj,hji,e⟩:=(a2 _).1 hd
        exact ⟨_,rfl,.inr ⟨rfl,fun hc=>hc.d i hi j hji e⟩⟩
      · rw [if_neg hd,right_okI n _ (hs _ (List.getElem_mem _)),obind]
        by_cases hv:CV n l[i]
        · rw [if_pos (decide_eq_true hv)]
          refine hJ _ ⟨hi,fun x=>?_,fun k hk hki=>?_,fun k hk j hj hki=>?_⟩ (by simp only; omega)
          · simp only
            unfold mgetD
            rw [mget_mset]
            by_cases e:x = l[i].fp
            · rw [if_pos e]
              exact ⟨fun _=>⟨i,hi,by omega,e.symm⟩,fun _=>rfl⟩
            · rw [if_neg e]
              have:=a2 x
              unfold mgetD at this
              rw [this]
              exact ⟨fun ⟨j,h1,h2,h3⟩=>⟨j,h1,by omega,h3⟩,fun ⟨j,h1,h2,h3⟩=>⟨j,h1,by
                have:j ≠ i:=fun e2=>by subst e2; exact e h3.symm
                omega,h3⟩⟩
          · by_cases e:k = i
            · subst e; exact hv
            · exact a3 k hk (by simp only at hki; omega)
          · by_cases e:k = i
            · subst e
              exact fun e2=>hd ((a2 _).2 ⟨j,by omega,hj,e2⟩)
            · exact a4 k hk j hj (by simp only at hki; omega)
        · rw [if_neg (by simpa using hv)]
          exact ⟨_,rfl,.inr ⟨rfl,fun hc=>hv (hc.u i hi)⟩⟩
    · rw [if_neg hi]
      exact ⟨_,rfl,.inl ⟨rfl,fun k hk=>a3 k hk (by omega),fun k hk j hj=>a4 k hk j hj (by omega)⟩⟩
end Go.Proofs.YtfccehcnajelgaaGreatDoor
/- Sets of numbers below 64, as bits of an unsigned number. No program in sight. -/
namespace Go.Proofs.YtfccehcnajelgaaGreatDoor
open Go
def bit (u:UInt64) (k:Nat):Bool:=u.toNat.testBit k
theorem bit_big {u:UInt64} {k:Nat} (h:64 ≤ k):bit u k = false:=by
  unfold bit
  apply Nat.testBit_lt_two_pow
  exact Nat.lt_of_lt_of_le (u64_lt u) (Nat.pow_le_pow_right (by decide) h:2 ^ 64 ≤ 2 ^ k)
theorem bit_lt {u:UInt64} {k:Nat} (h:bit u k = true):k < 64:=by
  rcases Nat.lt_or_ge k 64 with h1 | h1
  · exact h1
  · rw [bit_big h1] at h; cases h
theorem bit_ext {u v:UInt64} (h:∀ k,bit u k = bit v k):u = v:=by
  apply UInt64.toNat_inj.1
  exact Nat.eq_of_testBit_eq h
theorem bit_zero (k:Nat):bit 0 k = false:=by unfold bit; simp
theorem bit_or (u v:UInt64) (k:Nat):bit (u ||| v) k = (bit u k || bit v k):=by unfold bit; rw [UInt64.toNat_or,Nat.testBit_or]
theorem bit_and (u v:UInt64) (k:Nat):bit (u &&& v) k = (bit u k && bit v k):=by unfold bit; rw [UInt64.toNat_and,Nat.testBit_and]
theorem shlU_one {k:Nat} (h:k < 64):(shlU 1 k).toNat = 2 ^ k:=by
  unfold shlU
  rw [if_pos h]
  rw [show (1:UInt64).toNat = 1 from rfl,Nat.one_mul]
  exact UInt64.toNat_ofNat_of_lt' (Nat.pow_lt_pow_right (by decide) h:2 ^ k < 2 ^ 64)
theorem bit_one {k j:Nat} (h:k < 64):bit (shlU 1 k) j = decide (j = k):=by
  unfold bit
  rw [shlU_one h,Nat.testBit_two_pow]
  exact decide_eq_decide.2 eq_comm
theorem ne_zero_bit {u:UInt64} (h:u ≠ 0):∃ k,bit u k = true:=by
  apply Classical.byContradiction
  intro hn
  apply h
  apply bit_ext
  intro k
  rw [bit_zero]
  cases hk:bit u k with
  | false=>rfl
  | true=>exact absurd ⟨k,hk⟩ hn
def bitsL (u:UInt64):List Nat:=(List.range 64).filter (bit u ·)
theorem mem_bitsL {u:UInt64} {k:Nat}:k ∈ bitsL u ↔ bit u k = true:=by
  unfold bitsL
  rw [List.mem_filter,List.mem_range]
  exact ⟨fun h=>h.2,fun h=>⟨bit_lt h,h⟩⟩
theorem bitsL_len (u:UInt64):(bitsL u).length ≤ 64:=by
  unfold bitsL
  exact Nat.le_trans (List.length_filter_le _ _) (by simp)
theorem bitsL_zero:bitsL 0 = []:=by
  unfold bitsL
  rw [List.filter_eq_nil_iff]
  intro k _
  rw [bit_zero]; simp
def low (u:UInt64):Nat:=Lib.ctz 64 u.toNat
theorem low_form {u:UInt64} (h:u ≠ 0):∃ m,u.toNat = 2 ^ low u * (2 * m + 1)∧low u < 64:=by
  have h0:u.toNat ≠ 0:=fun e=>h (UInt64.toNat_inj.1 e)
  obtain ⟨m,h1,h2⟩:=Lib.ctzFrom_spec 64 u.toNat (by omega) (u64_lt u)
  have e:low u = Lib.ctzFrom 64 u.toNat:=by simp [low,Lib.ctz,h0]
  rw [e]
  exact ⟨m,h1,h2⟩
theorem bit_form {t m i:Nat} {u:UInt64} (h:u.toNat = 2 ^ t * (2 * m + 1)):bit u i = (decide (t ≤ i) && (2 * m + 1).testBit (i - t)):=by
  unfold bit
  rw [h,Nat.mul_comm,Nat.testBit_mul_two_pow]
theorem low_bit {u:UInt64} (h:u ≠ 0):bit u (low u) = true:=by
  obtain ⟨m,h1,_⟩:=low_form h
  rw [bit_form h1,Nat.sub_self,Nat.testBit_zero]
  simp
theorem low_lt {u:UInt64} {k:Nat} (h:u ≠ 0) (hk:k < low u):bit u k = false:=by
  obtain ⟨m,h1,_⟩:=low_form h
  rw [bit_form h1]
  simp; omega
theorem and_neg64 {u:UInt64} (h:u ≠ 0):u &&& (-u) = shlU 1 (low u):=by
  have h0:u.toNat ≠ 0:=fun e=>h (UInt64.toNat_inj.1 e)
  obtain ⟨h1,h2⟩:=Lib.lowest_bit 64 u.toNat h0 (u64_lt u)
  apply UInt64.toNat_inj.1
  rw [UInt64.toNat_and,shlU_one (show low u < 64 from h2)]
  have e:(-u).toNat = 2 ^ 64 - u.toNat:=by
    rw [UInt64.toNat_neg]
    have:=u64_lt u
    show (18446744073709551616 - u.toNat) % 18446744073709551616 = 18446744073709551616 - u.toNat
    omega
  rw [e]
  exact h1
theorem bit_rest {u:UInt64} (h:u ≠ 0) (k:Nat):bit (u &&& (u - 1)) k = (bit u k && decide (k ≠ low u)):=by
  obtain ⟨m,h1,h2⟩:=low_form h
  have e:(u - 1).toNat = u.toNat - 1:=by
    rw [UInt64.toNat_sub_of_le]
    · rfl
    · rw [UInt64.le_iff_toNat_le]
      have:u.toNat ≠ 0:=fun e=>h (UInt64.toNat_inj.1 e)
      show 1 ≤ _
      omega
  generalize ht:low u = t at *
  have hp:0 < 2 ^ t:=Nat.two_pow_pos t
  have e2:u.toNat - 1 = 2 ^ t * (2 * m) + (2 ^ t - 1):=by
    rw [h1,Nat.mul_add,Nat.mul_one]; omega
  have hb:(u - 1).toNat.testBit k = if k < t then true else (2 * m).testBit (k - t):=by
    rw [e,e2,Nat.testBit_two_pow_mul_add _ (by omega)]
    by_cases hk:k < t
    · rw [if_pos hk,if_pos hk,Nat.testBit_two_pow_sub_one]; simp [hk]
    · rw [if_neg hk,if_neg hk]
  rw [bit_and]
  show (bit u k && (u - 1).toNat.testBit k) = _
  rw [hb,bit_form h1]
  by_cases hk:k < t
  · have:¬ t ≤ k:=by omega
    simp [this]
  · rw [if_neg hk]
    by_cases hkt:k = t
    · subst hkt; simp
    · obtain ⟨j,rfl⟩:∃ j,k = t + (j + 1):=⟨k - t - 1,by omega⟩
      rw [show t + (j + 1) - t = j + 1 by omega,Nat.testBit_succ,Nat.testBit_succ]
      rw [show (2 * m + 1) / 2 = m by omega,show 2 * m / 2 = m by omega]
      have h3:t ≤ t + (j + 1):=by omega
      have h4:t + (j + 1) ≠ t:=by omega
      simp [h3]
theorem filter_first {p:Nat → Bool}:∀ (l:List Nat) (t:Nat),l.Pairwise (· < ·) → t ∈ l → p t = true → (∀ k,k < t → p k = false) → l.filter p = t :: l.filter (fun k=>p k && decide (k ≠ t))
  | [],t,_,h,_,_=>by cases h
  | x :: l,t,hp,hm,ht,hlow=>by
    have hx:=List.pairwise_cons.1 hp
    by_cases hxt:x = t
    · subst hxt
      rw [List.filter_cons_of_pos ht,List.filter_cons_of_neg (by simp)]
      congr 1
      apply List.filter_congr
      intro k hk
      have:k ≠ x:=by have:=hx.1 k hk; omega
      simp [this]
    · have hm' : t ∈ l:=(List.mem_cons.1 hm).resolve_left (fun e=>hxt e.symm)
      have hlt:=hx.1 t hm'
      have hpx:p x = false:=hlow x hlt
      rw [List.filter_cons_of_neg (by simp [hpx]),List.filter_cons_of_neg (by simp [hpx])]
      exact filter_first l t hx.2 hm' ht hlow
theorem bitsL_cons {u:UInt64} (h:u ≠ 0):bitsL u = low u :: bitsL (u &&& (u - 1)):=by
  unfold bitsL
  rw [filter_first (List.range 64) (low u) List.pairwise_lt_range (List.mem_range.2 (bit_lt (low_bit h))) (low_bit h) (fun k hk=>low_lt h hk)]
  congr 1
  apply List.filter_congr
  intro k _
  rw [bit_rest h]
theorem fits_iff {u:UInt64} {N:Nat}:u.toNat < 2 ^ N ↔ ∀ k,bit u k = true → k < N:=by
  constructor
  · intro h k hk
    rcases Nat.lt_or_ge k N with h1 | h1
    · exact h1
    · unfold bit at hk
      rw [Nat.testBit_lt_two_pow (Nat.lt_of_lt_of_le h (Nat.pow_le_pow_right (by decide) h1))] at hk
      cases hk
  · intro h
    apply Nat.lt_pow_two_of_testBit
    intro k hk
    cases hb:u.toNat.testBit k with
    | false=>rfl
    | true=>have:=h k hb; omega
end Go.Proofs.YtfccehcnajelgaaGreatDoor
/- Plain laws: the parts of a community. No program in sight but the printed functions. -/
namespace Go.Proofs.YtfccehcnajelgaaGreatDoor
open Go
set_option maxRecDepth 8000
theorem tz_tab:∀ t,t < 64 → tab0[(shrU (shlU 1 t * (285870213051353865:UInt64)) 58).toNat]? = some (UInt8.ofNat t):=by decide +kernel
theorem tz_eq (n:Nat) {u:UInt64} (h:u ≠ 0):math_bits_TrailingZeros64_p n u = some ((low u:Nat):Int):=by
  unfold math_bits_TrailingZeros64_p
  have hl:low u < 64:=bit_lt (low_bit h)
  rw [if_neg h,and_neg64 h,tz_tab _ hl]
  simp only [obind]
  rw [UInt8.toNat_ofNat_of_lt' (by show _ < 256; omega)]
theorem bits_loop {σ β:Type} {B:(UInt64 × σ → Option β) → UInt64 × σ → Option β} (R:σ → β) (F:Nat → σ → Option σ) (hB:∀ J (u:UInt64) s,B J (u,s) = if u = 0 then some (R s) else (F (low u) s).bind fun s' =>J (u &&& (u - 1),s')) :
    ∀ (m n:Nat) (u:UInt64) (s:σ),(bitsL u).length ≤ m → m < n → loopF B n (u,s) = ((bitsL u).foldlM (fun s t=>F t s) s).map R:=by
  intro m
  induction m with
  | zero=>
    intro n u s hm hn
    obtain ⟨k,rfl⟩:∃ k,n = k + 1:=⟨n - 1,by omega⟩
    have hu:u = 0:=Classical.byContradiction fun hne=>by rw [bitsL_cons hne] at hm; simp at hm
    show B (loopF B k) (u,s) = _
    rw [hB,if_pos hu,hu,bitsL_zero]
    rfl
  | succ m ih=>
    intro n u s hm hn
    obtain ⟨k,rfl⟩:∃ k,n = k + 1:=⟨n - 1,by omega⟩
    show B (loopF B k) (u,s) = _
    rw [hB]
    by_cases hu:u = 0
    · rw [if_pos hu,hu,bitsL_zero]; rfl
    · rw [if_neg hu,bitsL_cons hu,List.foldlM_cons]
      have hl:(bitsL (u &&& (u - 1))).length ≤ m:=by rw [bitsL_cons hu] at hm; simpa using hm
      cases F (low u) s with
      | none=>rfl
      | some s' =>exact ih k _ s' hl (by omega)
def pmf (p:List Int) (d:Int) (is:List Nat) (m:UInt64):UInt64:=is.foldl (fun m i=>if p[i]? = some d then m ||| shlU 1 i else m) m
theorem bit_pmf (p:List Int) (d:Int) (j:Nat):∀ (is:List Nat) (m:UInt64),(∀ i ∈ is,i < 64) → bit (pmf p d is m) j = (bit m j || (decide (j ∈ is) && decide (p[j]? = some d)))
  | [],m,_=>by simp [pmf]
  | i :: is,m,h=>by
    have hi:=h i (List.mem_cons_self ..)
    have ih:=bit_pmf p d j is (if p[i]? = some d then m ||| shlU 1 i else m) fun x hx=>h x (List.mem_cons_of_mem _ hx)
    show bit (pmf p d is (if p[i]? = some d then m ||| shlU 1 i else m)) j = _
    rw [ih]
    by_cases hp:p[i]? = some d
    · rw [if_pos hp,bit_or,bit_one hi]
      by_cases e:j = i
      · subst e; simp [hp]
      · simp [e]
    · rw [if_neg hp]
      by_cases e:j = i
      · subst e; simp [hp]
      · simp [e]
def pm (u:UInt64) (p:List Int) (d:Int):UInt64:=pmf p d (bitsL u) 0
theorem bit_pm (u:UInt64) (p:List Int) (d:Int) (j:Nat):bit (pm u p d) j = (bit u j && decide (p[j]? = some d)):=by
  unfold pm
  rw [bit_pmf p d j _ _ fun i hi=>bit_lt (mem_bitsL.1 hi),bit_zero,Bool.false_or]
  congr 1
  rw [Bool.eq_iff_iff,decide_eq_true_eq]
  exact mem_bitsL
def prt (u:UInt64) (p:List Int) (k:Nat):List UInt64:=((List.range k).map fun d:Nat=>pm u p (d:Int)).filter fun m=>decide (m ≠ 0)
theorem parts_fold (p:List Int) (k:Nat) (hp:∀ x ∈ p,0 ≤ x∧x < (k:Int)):∀ (is:List Nat) (f:Nat → UInt64),(∀ i ∈ is,i < p.length) →
    is.foldlM (fun (xs:List UInt64) (t:Nat)=>(idx p ((t:Nat):Int)).bind fun x341=>(idx xs x341).bind fun x353=>(natOf ((t:Nat):Int)).bind fun k368=>put xs ((x341.toNat:Nat):Int) (x353 ||| (shlU (1:UInt64) k368))) ((List.range k).map f) = some ((List.range k).map fun d:Nat=>pmf p (d:Int) is (f d))
  | [],f,_=>rfl
  | i :: is,f,h=>by
    have hi:=h i (List.mem_cons_self ..)
    obtain ⟨x0,x1⟩:=hp p[i] (List.getElem_mem hi)
    obtain ⟨d,hd⟩:∃ d:Nat,p[i] = (d:Int):=⟨p[i].toNat,by omega⟩
    have hdk:d < k:=by omega
    have hl:d < ((List.range k).map f).length:=by simpa using hdk
    have hn:natOf (i:Int) = some i:=by unfold natOf; rw [if_pos (by omega),Int.toNat_natCast]
    rw [List.foldlM_cons]
    have e1:idx p (i:Int) = some (d:Int):=by rw [← hd]; exact idx_ok (i:=(i:Int)) (by omega) hi
    have e2:idx ((List.range k).map f) (d:Int) = some (f d):=by
      rw [idx_ok (i:=(d:Int)) (by omega) hl]; simp
    rw [e1,obind,e2,obind,hn,obind,Int.toNat_natCast,put_ok _ hl]
    have e3:((List.range k).map f).set d (f d ||| shlU 1 i) = (List.range k).map fun e:Nat=>if p[i]? = some (e:Int) then f e ||| shlU 1 i else f e:=by
      refine List.ext_getElem (by simp) fun j h1 h2=>?_
      rw [List.getElem_set]
      simp only [List.getElem_map,List.getElem_range]
      rw [List.getElem?_eq_getElem hi,hd]
      by_cases e:d = j
      · subst e; simp
      · rw [if_neg e,if_neg (by simp only [Option.some.injEq]; omega)]
    rw [e3]
    exact parts_fold p k hp is _ fun x hx=>h x (List.mem_cons_of_mem _ hx)
theorem vparts27_ok (r:TRoll) (p:List Int) (k:Nat) (c:TInterest) (hk:k ≤ 8) (hp:∀ x ∈ p,0 ≤ x∧x < (k:Int)) (hu:∀ i,bit c.fo i = true → i < p.length):interest_view_parts_p FU ⟨r,p,(k:Int)⟩ c = some (prt c.fo p k):=by
  have hF:=FU_lt
  unfold interest_view_parts_p
  simp only
  rw [mk_ok k _ (by omega),obind]
  have h1:=bits_loop (B:=interest_view_parts_l2 FU ⟨r,p,(k:Int)⟩) (fun s:List UInt64=>s) (fun (t:Nat) (xs:List UInt64)=>(idx p ((t:Nat):Int)).bind fun x341=>(idx xs x341).bind fun x353=>(natOf ((t:Nat):Int)).bind fun k368=>put xs ((x341.toNat:Nat):Int) (x353 ||| (shlU (1:UInt64) k368))) (fun J u s=>by
    unfold interest_view_parts_l2
    simp only
    by_cases h0:u = 0
    · rw [if_pos h0,if_pos h0]
    · rw [if_neg h0,if_neg h0,tz_eq FU h0,obind]
      cases idx p ((low u:Nat):Int) with
      | none=>rfl
      | some x=>simp only [obind]; cases idx s x with
        | none=>rfl
        | some y=>rfl) 64 FU c.fo (List.replicate k 0) (bitsL_len _) (by omega)
  have e0:List.replicate k (0:UInt64) = (List.range k).map fun _=>0:=by
    refine List.ext_getElem (by simp) fun j h1 h2=>by simp
  rw [h1,e0,parts_fold p k hp _ _ fun i hi=>hu i (mem_bitsL.1 hi)]
  show Option.bind (some ((List.range k).map fun d:Nat=>pm c.fo p (d:Int))) _ = _
  rw [obind]
  unfold prt
  generalize hX:((List.range k).map fun d:Nat=>pm c.fo p (d:Int)) = X
  have hXl:X.length = k:=by rw [← hX]; simp
  clear hX h1 e0
  have hh:=loop_ok (B:=interest_view_parts_l1 FU X) (fun s:Nat × List UInt64=>X.length - s.1) (fun s=>s.1 ≤ X.length∧s.2 = (X.take s.1).filter fun m=>decide (m ≠ 0)) (fun y=>y = X.filter fun m=>decide (m ≠ 0)) ?_ FU (0,[]) ⟨Nat.zero_le _,rfl⟩ (by simp only; omega)
  · obtain ⟨y,e,rfl⟩:=hh
    rw [e,obind]
  · rintro ⟨i,xs⟩ J ⟨a1,a2⟩ hJ
    simp only at a1 a2 hJ
    subst a2
    unfold interest_view_parts_l1
    simp only
    by_cases hi:i < X.length
    · have hlen:((X.take i).filter fun m=>decide (m ≠ 0)).length ≤ 8:=Nat.le_trans (List.length_filter_le ..) (by rw [List.length_take]; omega)
      have next:=hJ (i + 1,(X.take (i + 1)).filter fun m=>decide (m ≠ 0)) ⟨hi,rfl⟩ (by simp only; omega)
      rw [List.take_succ_eq_append_getElem hi,List.filter_append] at next
      rw [if_pos hi,List.getElem?_eq_getElem hi,obind]
      by_cases h0:X[i] = 0
      · rw [if_pos h0]
        rw [List.filter_cons_of_neg (by simpa using h0),List.filter_nil,List.append_nil] at next
        exact next
      · rw [if_neg h0,appS _ _ (by simp only [List.length_cons,List.length_nil]; omega),obind]
        rw [List.filter_cons_of_pos (by simpa using h0),List.filter_nil] at next
        exact next
    · rw [if_neg hi]
      exact ⟨_,rfl,by rw [List.take_of_length_le (by omega)]⟩
def ws (w:Nat → Int) (u:UInt64):Int:=((bitsL u).map w).sum
theorem ws_zero (w:Nat → Int):ws w 0 = 0:=by unfold ws; rw [bitsL_zero]; rfl
theorem sum_nn {l:List Nat} {w:Nat → Int} (h:∀ i ∈ l,0 ≤ w i):0 ≤ (l.map w).sum:=by
  induction l with
  | nil=>simp
  | cons i l ih=>
    have h1:=h i (List.mem_cons_self ..)
    have h2:=ih fun x hx=>h x (List.mem_cons_of_mem _ hx)
    rw [List.map_cons,List.sum_cons]; omega
theorem sum_le {l:List Nat} {w:Nat → Int} {B:Int} (h:∀ i ∈ l,w i ≤ B):(l.map w).sum ≤ B * l.length:=by
  induction l with
  | nil=>simp
  | cons i l ih=>
    have h1:=h i (List.mem_cons_self ..)
    have h2:=ih fun x hx=>h x (List.mem_cons_of_mem _ hx)
    rw [List.map_cons,List.sum_cons,List.length_cons]
    have:B * ((l.length + 1:Nat):Int) = B * l.length + B:=by rw [Int.natCast_add,Int.mul_add]; omega
    omega
theorem ws_nn {w:Nat → Int} {u:UInt64} (h:∀ i,bit u i = true → 0 ≤ w i):0 ≤ ws w u:=sum_nn fun i hi=>h i (mem_bitsL.1 hi)
theorem ws_le {w:Nat → Int} {u:UInt64} {B:Int} (hB:0 ≤ B) (h:∀ i,bit u i = true → w i ≤ B):ws w u ≤ B * 64:=by
  have h1:=sum_le (l:=bitsL u) (w:=w) (B:=B) fun i hi=>h i (mem_bitsL.1 hi)
  have h2:=bitsL_len u
  have h3:B * ((bitsL u).length:Int) ≤ B * 64:=Int.mul_le_mul_of_nonneg_left (by omega) hB
  unfold ws
  omega
def ppo (r:TRoll) (i:Nat):Int:=((r.fo[i]?).map (·.fE)).getD 0
theorem people_fold (r:TRoll) (hp:∀ u ∈ r.fo,0 ≤ u.fE∧u.fE ≤ 1000000000):∀ (is:List Nat) (s:Int),(∀ i ∈ is,i < r.fo.length) → 0 ≤ s → s + 1000000000 * is.length ≤ 1000000000000 →
    is.foldlM (fun (z:Int) (t:Nat)=>(idx r.fo ((t:Nat):Int)).bind fun x152=>(chk (z + x152.fE)).bind fun s169=>some s169) s = some (s + (is.map (ppo r)).sum)
  | [],s,_,_,_=>by simp
  | i :: is,s,h,h0,h1=>by
    have hi:=h i (List.mem_cons_self ..)
    obtain ⟨p0,p1⟩:=hp r.fo[i] (List.getElem_mem hi)
    have e1:idx r.fo (i:Int) = some r.fo[i]:=idx_ok (i:=(i:Int)) (by omega) hi
    have e2:ppo r i = r.fo[i].fE:=by unfold ppo; rw [List.getElem?_eq_getElem hi]; rfl
    rw [List.length_cons] at h1
    rw [List.foldlM_cons,e1,obind,chkI (by omega) (by omega),obind]
    show is.foldlM _ (s + r.fo[i].fE) = _
    rw [people_fold r hp is _ (fun x hx=>h x (List.mem_cons_of_mem _ hx)) (by omega) (by omega),List.map_cons,List.sum_cons,e2]
    congr 1; omega
theorem people27_ok (r:TRoll) (p:List Int) (k:Int) (m:UInt64) (hp:∀ u ∈ r.fo,0 ≤ u.fE∧u.fE ≤ 1000000000) (hm:∀ i,bit m i = true → i < r.fo.length):interest_view_largest_1_p FU m ⟨r,p,k⟩ = some (ws (ppo r) m):=by
  have hF:=FU_lt
  have hl:=bitsL_len m
  unfold interest_view_largest_1_p
  have h1:=bits_loop (B:=interest_view_largest_1_l1 FU ⟨r,p,k⟩) (fun s:Int=>s) (fun (t:Nat) (z:Int)=>(idx r.fo ((t:Nat):Int)).bind fun x152=>(chk (z + x152.fE)).bind fun s169=>some s169) (fun J u s=>by
    unfold interest_view_largest_1_l1
    simp only
    by_cases h0:u = 0
    · rw [if_pos h0,if_pos h0]
    · rw [if_neg h0,if_neg h0,tz_eq FU h0,obind]
      cases idx r.fo ((low u:Nat):Int) with
      | none=>rfl
      | some x=>simp only [obind]; cases chk (s + x.fE) with
        | none=>rfl
        | some y=>rfl) 64 FU m 0 hl (by omega)
  rw [h1,people_fold r hp _ 0 (fun i hi=>hm i (mem_bitsL.1 hi)) (by omega) (by omega)]
  show Option.bind (some (0 + ws (ppo r) m)) _ = _
  rw [obind,Int.zero_add]
theorem pc_snoc27 (i x:Nat):pc (i + 1) x = pc i x + x / 2 ^ i % 2:=by
  rw [pc_add]; rfl
theorem pc_filter (x:Nat):∀ i,pc i x = ((List.range i).filter fun j=>x.testBit j).length
  | 0=>rfl
  | i + 1=>by
    rw [pc_snoc27,pc_filter x i,List.range_succ,List.filter_append,List.length_append]
    congr 1
    by_cases hb:x / 2 ^ i % 2 = 1
    · rw [List.filter_cons_of_pos (by rw [Nat.testBit_eq_decide_div_mod_eq]; simpa using hb),hb]; rfl
    · rw [List.filter_cons_of_neg (by rw [Nat.testBit_eq_decide_div_mod_eq]; simpa using hb)]
      exact (Nat.mod_two_eq_zero_or_one _).resolve_right hb
theorem pc_bits (u:UInt64):((pc 64 u.toNat:Nat):Int) = ws (fun _=>1) u:=by
  rw [pc_filter]
  have key:∀ l:List Nat,(l.map fun _=>(1:Int)).sum = l.length:=fun l=>by
    induction l with
    | nil=>rfl
    | cons i l ih=>rw [List.map_cons,List.sum_cons,ih,List.length_cons]; omega
  unfold ws
  rw [key]
  rfl
theorem ones27 (u:UInt64):math_bits_OnesCount64_p FU u = some (ws (fun _=>1) u):=by rw [ones_ok,pc_bits]
/-! ### Sums over the parts -/
theorem bitsL_pm (u:UInt64) (p:List Int) (d:Int):bitsL (pm u p d) = (bitsL u).filter fun i=>decide (p[i]? = some d):=by
  unfold bitsL
  rw [List.filter_filter]
  refine List.filter_congr fun i _=>?_
  rw [bit_pm,Bool.and_comm]
theorem sum_filter (w:Nat → Int) (f:Nat → Bool):∀ l:List Nat,((l.filter f).map w).sum = (l.map fun i=>if f i = true then w i else 0).sum
  | []=>rfl
  | i :: l=>by
    by_cases h:f i = true
    · rw [List.filter_cons_of_pos h,List.map_cons,List.map_cons,List.sum_cons,List.sum_cons,if_pos h,sum_filter w f l]
    · rw [List.filter_cons_of_neg h,List.map_cons,List.sum_cons,if_neg h,sum_filter w f l,Int.zero_add]
theorem sum_at (y:Int) (x:Nat):∀ k,((List.range k).map fun d:Nat=>if x = d then y else 0).sum = if x < k then y else 0
  | 0=>rfl
  | k + 1=>by
    rw [List.range_succ,List.map_append,List.sum_append,sum_at y x k]
    simp only [List.map_cons,List.map_nil,List.sum_cons,List.sum_nil]
    by_cases h:x < k
    · rw [if_pos h,if_neg (by omega),if_pos (by omega)]; omega
    · by_cases e:x = k
      · rw [if_neg h,if_pos e,if_pos (by omega)]; omega
      · rw [if_neg h,if_neg e,if_neg (by omega)]; omega
theorem sum_add2 (f g:Nat → Int):∀ l:List Nat,(l.map fun x=>f x + g x).sum = (l.map f).sum + (l.map g).sum
  | []=>rfl
  | x :: l=>by simp only [List.map_cons,List.sum_cons,sum_add2 f g l]; omega
theorem sum_parts (w:Nat → Int) (p:List Int) (k:Nat) (hp:∀ x ∈ p,0 ≤ x∧x < (k:Int)):∀ is:List Nat,(∀ i ∈ is,i < p.length) → ((List.range k).map fun d:Nat=>(is.map fun i=>if decide (p[i]? = some (d:Int)) = true then w i else 0).sum).sum = (is.map w).sum
  | [],_=>by
    have:∀ k,((List.range k).map fun _:Nat=>(0:Int)).sum = 0:=fun k=>by
      induction k with
      | zero=>rfl
      | succ k ih=>rw [List.range_succ,List.map_append,List.sum_append,ih]; rfl
    simpa using this k
  | i :: is,h=>by
    have hi:=h i (List.mem_cons_self ..)
    obtain ⟨x0,x1⟩:=hp p[i] (List.getElem_mem hi)
    obtain ⟨d,hd⟩:∃ d:Nat,p[i] = (d:Int):=⟨p[i].toNat,by omega⟩
    have ih:=sum_parts w p k hp is fun x hx=>h x (List.mem_cons_of_mem _ hx)
    simp only [List.map_cons,List.sum_cons]
    rw [sum_add2,ih]
    have e:((List.range k).map fun e:Nat=>if decide (p[i]? = some (e:Int)) = true then w i else 0) = (List.range k).map fun e:Nat=>if d = e then w i else 0:=List.map_congr_left fun e _=>by
      rw [List.getElem?_eq_getElem hi,hd]
      by_cases h1:d = e
      · subst h1; rw [if_pos (by simp),if_pos rfl]
      · rw [if_neg (by simp only [decide_eq_true_eq,Option.some.injEq]; omega),if_neg h1]
    rw [e,sum_at,if_pos (by omega)]
theorem sum_nz (w:Nat → Int):∀ l:List UInt64,((l.filter fun m=>decide (m ≠ 0)).map (ws w)).sum = (l.map (ws w)).sum
  | []=>rfl
  | m :: l=>by
    by_cases h:m = 0
    · subst h; rw [List.filter_cons_of_neg (by simp),List.map_cons,List.sum_cons,ws_zero,sum_nz w l,Int.zero_add]
    · rw [List.filter_cons_of_pos (by simpa using h),List.map_cons,List.sum_cons,List.map_cons,List.sum_cons,sum_nz w l]
theorem prt_sum (w:Nat → Int) (u:UInt64) (p:List Int) (k:Nat) (hp:∀ x ∈ p,0 ≤ x∧x < (k:Int)) (hu:∀ i,bit u i = true → i < p.length):((prt u p k).map (ws w)).sum = ws w u:=by
  unfold prt
  rw [sum_nz,List.map_map]
  have e:(ws w ∘ fun d:Nat=>pm u p (d:Int)) = fun d:Nat=>((bitsL u).map fun i=>if decide (p[i]? = some (d:Int)) = true then w i else 0).sum:=funext fun d=>by
    show ws w (pm u p (d:Int)) = _
    unfold ws
    rw [bitsL_pm,sum_filter]
  rw [e]
  exact sum_parts w p k hp _ fun i hi=>hu i (mem_bitsL.1 hi)
end Go.Proofs.YtfccehcnajelgaaGreatDoor
/- Plain laws: the largest share of a community. No program in sight but the printed functions. -/
namespace Go.Proofs.YtfccehcnajelgaaGreatDoor
open Go
set_option maxRecDepth 8000
theorem exok {ε α β:Type} (x:α) (f:α → Option β) (g:ε → Option β):exc (.ok x) f g = f x:=rfl
theorem iof {a b:Int} (h0:b ≠ 0) (ha:Sm a) (hb:Sm b):interest_of_p FU a b = some (.ok (Sg (Rat.divInt a b))):=by
  unfold interest_of_p interest_must_api_Share_p
  rw [sof h0 ha hb]; rfl
def mostL (w:Nat → Int) (l:List UInt64):Int:=l.foldl (fun z m=>max z (ws w m)) 0
theorem fold_max (w:Nat → Int):∀ (l:List UInt64) (z:Int),z ≤ l.foldl (fun z m=>max z (ws w m)) z∧(∀ m ∈ l,ws w m ≤ l.foldl (fun z m=>max z (ws w m)) z)∧(l.foldl (fun z m=>max z (ws w m)) z = z ∨ ∃ m ∈ l,l.foldl (fun z m=>max z (ws w m)) z = ws w m)
  | [],z=>⟨Int.le_refl _,(fun m hm=>by cases hm),.inl rfl⟩
  | m :: l,z=>by
    obtain ⟨h1,h2,h3⟩:=fold_max w l (max z (ws w m))
    rw [List.foldl_cons]
    refine ⟨by omega,fun x hx=>?_,?_⟩
    · rcases List.mem_cons.1 hx with rfl | hx
      · omega
      · exact h2 x hx
    · rcases h3 with h3 | ⟨x,hx,h3⟩
      · by_cases hz:ws w m ≤ z
        · exact .inl (by rw [h3]; omega)
        · exact .inr ⟨m,List.mem_cons_self ..,by rw [h3]; omega⟩
      · exact .inr ⟨x,List.mem_cons_of_mem _ hx,h3⟩
theorem mostL_snoc (w:Nat → Int) (l:List UInt64) (m:UInt64):mostL w (l ++ [m]) = max (mostL w l) (ws w m):=by
  unfold mostL; rw [List.foldl_append]; rfl
def wt (r:TRoll) (u:UInt64):Nat → Int:=if ws (ppo r) u = 0 then fun _=>1 else ppo r
structure VC (r:TRoll) (p:List Int) (k:Nat) (c:TInterest):Prop where
  k8:k ≤ 8
  pk:∀ x ∈ p,0 ≤ x∧x < (k:Int)
  ub:∀ i,bit c.fo i = true → i < p.length
  n:p.length ≤ r.fo.length
  h:∀ u ∈ r.fo,0 ≤ u.fE∧u.fE ≤ 1000000000
  z:c.fo ≠ 0
theorem prt_mem {u:UInt64} {p:List Int} {k:Nat} {m:UInt64} (h:m ∈ prt u p k):m ≠ 0∧∃ d,d < k∧m = pm u p (d:Int):=by
  unfold prt at h
  obtain ⟨h1,h2⟩:=List.mem_filter.1 h
  obtain ⟨d,hd,rfl⟩:=List.mem_map.1 h1
  exact ⟨by simpa using h2,d,List.mem_range.1 hd,rfl⟩
theorem prt_sub {u:UInt64} {p:List Int} {k:Nat} {m:UInt64} (h:m ∈ prt u p k) {i:Nat} (hb:bit m i = true):bit u i = true:=by
  obtain ⟨_,d,_,rfl⟩:=prt_mem h
  rw [bit_pm,Bool.and_eq_true] at hb
  exact hb.1
section
variable {r:TRoll} {p:List Int} {k:Nat} {c:TInterest} (v:VC r p k c)
include v
theorem ppo_ok (i:Nat):0 ≤ ppo r i∧ppo r i ≤ 1000000000:=by
  unfold ppo
  by_cases hi:i < r.fo.length
  · rw [List.getElem?_eq_getElem hi]; exact v.h _ (List.getElem_mem hi)
  · rw [List.getElem?_eq_none (by omega)]; exact ⟨Int.le_refl _,by decide⟩
theorem wt_ok (i:Nat):0 ≤ wt r c.fo i∧wt r c.fo i ≤ 1000000000:=by
  unfold wt
  split
  · exact ⟨show (0:Int) ≤ 1 by decide,show (1:Int) ≤ 1000000000 by decide⟩
  · exact ppo_ok v i
theorem wt_pos:0 < ws (wt r c.fo) c.fo:=by
  unfold wt
  by_cases h:ws (ppo r) c.fo = 0
  · rw [if_pos h]
    obtain ⟨i,hi⟩:=ne_zero_bit v.z
    have key:∀ l:List Nat,(l.map fun _=>(1:Int)).sum = l.length:=fun l=>by
      induction l with
      | nil=>rfl
      | cons i l ih=>rw [List.map_cons,List.sum_cons,ih,List.length_cons]; omega
    unfold ws
    rw [key]
    have:=List.length_pos_of_mem (mem_bitsL.2 hi)
    omega
  · rw [if_neg h]
    have:=ws_nn (w:=ppo r) (u:=c.fo) fun i _=>(ppo_ok v i).1
    omega
theorem wt_bound (m:UInt64):0 ≤ ws (wt r c.fo) m∧ws (wt r c.fo) m ≤ 64000000000:=by
  refine ⟨ws_nn fun i _=>(wt_ok v i).1,?_⟩
  have:=ws_le (w:=wt r c.fo) (u:=m) (B:=1000000000) (by decide) fun i _=>(wt_ok v i).2
  omega
theorem most_bound (l:List UInt64):0 ≤ mostL (wt r c.fo) l∧mostL (wt r c.fo) l ≤ 64000000000:=by
  obtain ⟨h1,_,h3⟩:=fold_max (wt r c.fo) l 0
  refine ⟨h1,?_⟩
  unfold mostL
  rcases h3 with h3 | ⟨m,_,h3⟩
  · rw [h3]; decide
  · rw [h3]; exact (wt_bound v m).2
theorem vlargest_ok:interest_view_largest_p FU ⟨r,p,(k:Int)⟩ c = some (.ok (Sg (Rat.divInt (mostL (wt r c.fo) (prt c.fo p k)) (ws (wt r c.fo) c.fo)))):=by
  have hF:=FU_lt
  have hb:=most_bound v (prt c.fo p k)
  have hw:=wt_bound v c.fo
  have hp:=wt_pos v
  have hun:∀ i,bit c.fo i = true → i < r.fo.length:=fun i hi=>Nat.lt_of_lt_of_le (v.ub i hi) v.n
  unfold interest_view_largest_p
  have hpl:(prt c.fo p k).length ≤ 8:=by
    unfold prt
    refine Nat.le_trans (List.length_filter_le ..) ?_
    rw [List.length_map,List.length_range]; exact v.k8
  rw [people27_ok r p k c.fo v.h hun,obind,vparts27_ok r p k c v.k8 v.pk v.ub]
  have hsub:∀ m ∈ prt c.fo p k,∀ i,bit m i = true → i < r.fo.length:=fun m hm i hi=>hun i (prt_sub hm hi)
  unfold wt at *
  by_cases h0:ws (ppo r) c.fo = 0
  · rw [if_pos h0] at hb hw hp
    rw [if_pos h0,if_pos h0,obind]
    generalize prt c.fo p k = P at *
    have hh:=loop_ok (B:=interest_view_largest_l1 FU P) (fun s:Int × Nat=>P.length - s.2) (fun s=>s.2 ≤ P.length∧s.1 = mostL (fun _=>1) (P.take s.2)) (fun y=>y = mostL (fun _=>1) P) ?_ FU (0,0) ⟨Nat.zero_le _,rfl⟩ (by simp only; omega)
    · obtain ⟨y,e,rfl⟩:=hh
      rw [e,obind,ones27,obind,iof (by omega) (by unfold Sm; omega) (by unfold Sm; omega),obind,exok]
    · rintro ⟨z,i⟩ J ⟨a1,a2⟩ hJ
      simp only at a1 a2 hJ
      subst a2
      unfold interest_view_largest_l1
      simp only
      by_cases hi:i < P.length
      · have next:=hJ (mostL (fun _=>1) (P.take (i + 1)),i + 1) ⟨hi,rfl⟩ (by simp only; omega)
        rw [List.take_succ_eq_append_getElem hi,mostL_snoc] at next
        rw [if_pos hi,List.getElem?_eq_getElem hi,obind,ones27,obind]
        exact next
      · rw [if_neg hi]
        exact ⟨_,rfl,by rw [List.take_of_length_le (by omega)]⟩
  · rw [if_neg h0] at hb hw hp
    rw [if_neg h0,if_neg h0,obind]
    generalize prt c.fo p k = P at *
    have hh:=loop_ok (B:=interest_view_largest_l2 FU P ⟨r,p,(k:Int)⟩) (fun s:Int × Nat=>P.length - s.2) (fun s=>s.2 ≤ P.length∧s.1 = mostL (ppo r) (P.take s.2)) (fun y=>y = mostL (ppo r) P) ?_ FU (0,0) ⟨Nat.zero_le _,rfl⟩ (by simp only; omega)
    · obtain ⟨y,e,rfl⟩:=hh
      rw [e,obind,obind,iof (by omega) (by unfold Sm; omega) (by unfold Sm; omega),obind,exok]
    · rintro ⟨z,i⟩ J ⟨a1,a2⟩ hJ
      simp only at a1 a2 hJ
      subst a2
      unfold interest_view_largest_l2
      simp only
      by_cases hi:i < P.length
      · have next:=hJ (mostL (ppo r) (P.take (i + 1)),i + 1) ⟨hi,rfl⟩ (by simp only; omega)
        rw [List.take_succ_eq_append_getElem hi,mostL_snoc] at next
        rw [if_pos hi,List.getElem?_eq_getElem hi,obind,people27_ok r p k _ v.h (hsub _ (List.getElem_mem hi)),obind]
        exact next
      · rw [if_neg hi]
        exact ⟨_,rfl,by rw [List.take_of_length_le (by omega)]⟩
theorem most_le:mostL (wt r c.fo) (prt c.fo p k) ≤ ws (wt r c.fo) c.fo∧ws (wt r c.fo) c.fo ≤ (prt c.fo p k).length * mostL (wt r c.fo) (prt c.fo p k):=by
  obtain ⟨h1,h2,h3⟩:=fold_max (wt r c.fo) (prt c.fo p k) 0
  have hs:=prt_sum (wt r c.fo) c.fo p k v.pk v.ub
  have hnn:∀ m,0 ≤ ws (wt r c.fo) m:=fun m=>(wt_bound v m).1
  have key:∀ l:List UInt64,0 ≤ (l.map (ws (wt r c.fo))).sum∧∀ m ∈ l,ws (wt r c.fo) m ≤ (l.map (ws (wt r c.fo))).sum:=fun l=>by
    induction l with
    | nil=>exact ⟨Int.le_refl _,(fun m hm=>by cases hm)⟩
    | cons x l ih=>
      have:=hnn x
      rw [List.map_cons,List.sum_cons]
      refine ⟨by omega,fun m hm=>?_⟩
      rcases List.mem_cons.1 hm with rfl | hm
      · omega
      · have:=ih.2 m hm; omega
  have key2:∀ (l:List UInt64) (M:Int),(∀ m ∈ l,ws (wt r c.fo) m ≤ M) → (l.map (ws (wt r c.fo))).sum ≤ l.length * M:=fun l M=>by
    induction l with
    | nil=>intro _; simp
    | cons x l ih=>
      intro h
      have h1:=h x (List.mem_cons_self ..)
      have h2:=ih fun m hm=>h m (List.mem_cons_of_mem _ hm)
      rw [List.map_cons,List.sum_cons,List.length_cons,Int.natCast_add,Int.add_mul]
      omega
  unfold mostL
  rw [← hs]
  refine ⟨?_,key2 _ _ h2⟩
  rcases h3 with h3 | ⟨m,hm,h3⟩
  · rw [h3]; exact (key _).1
  · rw [h3]; exact (key _).2 m hm
end
end Go.Proofs.YtfccehcnajelgaaGreatDoor
