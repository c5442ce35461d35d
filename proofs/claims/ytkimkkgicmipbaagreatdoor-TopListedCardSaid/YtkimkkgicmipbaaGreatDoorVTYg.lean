/- Plain laws: plans as lists of numbers, their masks, their canonical form. -/
import Derived.Test.YtkimkkgicmipbaaGreatDoorVTYf
namespace Go.Proofs.YtkimkkgicmipbaaGreatDoor
open Go

/-- The set of a test. -/
def maskF (f : Nat->Bool) : Ua := (List.range 64).foldl (fun u i => if f i then u|||shlU 1 i else u) 0
theorem qb (f : Nat->Bool) (j : Nat) : bit (maskF f) j=(decide (j<64)&&f j) := by
  have key : ∀ n, n<=64->bit ((List.range n).foldl (fun u i => if f i then u|||shlU 1 i else u) 0) j=(decide (j<n)&&f j) := by
    intro n
    induction n with
    | zero => intro _; rw [List.range_zero, List.foldl_nil, bt]; simp
    | succ n ih =>
      intro hn
      rw [List.range_succ, List.foldl_append, List.foldl_cons, List.foldl_nil]
      cases hf : f n with
      | false =>
        simp only [Bool.false_eq_true, if_false]
        rw [ih (by omega)]
        by_cases hj : j=n
        · subst hj; simp [hf]
        · rw [show decide (j<n+1)=decide (j<n) from decide_eq_decide.2 (by omega)]
      | true =>
        simp only [if_true]
        rw [aR, ih (by omega), aS (by omega)]
        by_cases hj : j=n
        · subst hj; simp [hf]
        · rw [show decide (j<n+1)=decide (j<n) from decide_eq_decide.2 (by omega), decide_eq_false hj, Bool.or_false]
  exact key 64 (Nat.le_refl _)
/-- A class of a plan. -/
def cls (q : Lb Nat) (d : Nat) : Ua := maskF fun i => decide (q[i]? = some d)
theorem br {q : Lb Nat} (h : q.length<=64) (d i : Nat) : bit (cls q d) i=true↔q[i]? = some d := by
  unfold cls
  rw [qb, Bool.and_eq_true, decide_eq_true_eq, decide_eq_true_eq]
  refine ⟨And.right, fun e => ⟨?_, e⟩⟩
  have := (List.getElem?_eq_some_iff.1 e).1
  omega
theorem jY {q : Lb Nat} (h : q.length<=64) (d : Nat) : cS (q.length : Int) (cls q d) := fun i hi => by
  have := (List.getElem?_eq_some_iff.1 ((br h d i).1 hi)).1
  omega
theorem jQ {q : Lb Nat} (h : q.length<=64) (d : Nat) : cls q d≠0↔d∈q := by
  constructor
  · intro h0
    obtain ⟨i, hi⟩ := iJ h0
    exact List.mem_of_getElem? ((br h d i).1 hi)
  · intro hd e
    obtain ⟨i, hi, rfl⟩ := List.getElem_of_mem hd
    have := (br h q[i] i).2 (geE hi)
    rw [e, bt] at this
    cases this
/-- A plan as the program has it. -/
def ak (q : Lb Nat) : Lb Int := q.map fun x : Nat => (x : Int)
theorem aq (q : Lb Nat) : (ak q).length=q.length := List.length_map ..
theorem ca (q : Lb Nat) (i : Nat) : (ak q)[i]? = q[i]?.map fun x : Nat => (x : Int) := List.getElem?_map ..
theorem sH {p q : Lb Nat} (h : ak p=ak q) : p=q := List.map_inj_right (fun a b e => by omega) |>.1 h
theorem ti {q : Lb Nat} {x : Int} : x∈ak q↔∃ y∈q, (y : Int)=x := List.mem_map
theorem gk (q : Lb Nat) (k : Nat) (h : q.length<=64) (h1 : 1<=q.length) (hk : ∀ x∈q, x<k) : bB_p FU (ak q) (k : Int)=some true := by
  unfold bB_p
  rw [rK (l := ak q) (fun x => 0<=x/\x<(k : Int)) false (fun J i => ?_) (by rw [aq]; exact av (by omega))]
  · rw [if_pos (fun x hx => by obtain ⟨y, h1, rfl⟩ := ti.1 hx; have := hk y h1; omega)]
    unfold thn
    simp only [aq]
    rw [if_pos (by omega), decide_eq_true (by omega)]
  · unfold bB_l1
    by_cases hi : i<(ak q).length
    · rw [if_pos hi, dif_pos hi, geE hi, aa]
      by_cases h0 : (ak q)[i]<0
      · rw [if_pos h0, if_neg (by omega)]
      · rw [if_neg h0]
        by_cases h2 : (k : Int)<=(ak q)[i]
        · rw [if_pos h2, if_neg (by omega)]
        · rw [if_neg h2, if_pos (by omega)]
    · rw [if_neg hi, dif_neg hi]
theorem sU (q : Lb Nat) (k : Nat) (h : q.length<=64) (_k8 : k<=8) (hq : ∀ x∈q, x<k) : ∃ ms, ah (bj_l2 FU (ak q)) FU (0, List.replicate k 0)=some ms/\ms.length=k/\∀ d, d<k->ms[d]? = some (cls q d) := by
  refine am (B := bj_l2 FU (ak q)) (fun s : Nat×Lb Ua => q.length-s.1) (fun s => s.1<=q.length/\s.2.length=k/\∀ d, d<k->s.2[d]? = some (cls (q.take s.1) d)) _ ?_ FU (0, List.replicate k 0) ⟨by simp, by simp, fun d hd => ?_⟩ (av (by simp only; omega))
  · rintro ⟨i, ms⟩ J ⟨a1, a2, a3⟩ hJ
    simp only at a1 a2 a3 hJ
    unfold bj_l2
    simp only [aq]
    by_cases hi : i<q.length
    · have hx := hq q[i] (List.getElem_mem _)
      rw [if_pos hi, ca, geE hi]
      simp only [Option.map_some, aa]
      rw [aF, a3 _ hx]
      simp only [aa]
      rw [show (((q[i] : Nat) : Int).toNat)=q[i] from Int.toNat_natCast _, bc _ (by omega)]
      simp only [aa]
      refine hJ _ ⟨hi, by simpa using a2, fun d hd => ?_⟩ (by simp only; omega)
      simp only
      rw [List.getElem?_set, a2]
      have h64 : ∀ j, (q.take j).length<=64 := fun j => by rw [List.length_take]; omega
      have step : ∀ d j, (q.take (i+1))[j]? = some d↔(q.take i)[j]? = some d∨j=i/\q[i]=d := fun d j => by
        rw [List.getElem?_take, List.getElem?_take]
        by_cases h1 : j<i
        · rw [if_pos (by omega), if_pos h1]
          exact ⟨.inl, fun h => h.elim id fun h => by omega⟩
        · rw [if_neg h1]
          by_cases h2 : j=i
          · subst h2
            rw [if_pos (by omega), geE hi]
            simp
          · rw [if_neg (by omega)]
            simp [h2]
      by_cases e : q[i]=d
      · subst e
        rw [if_pos I, if_pos hd]
        congr 1
        refine bq fun j => Bool.eq_iff_iff.2 ?_
        rw [aR, Bool.or_eq_true, br (h64 _), br (h64 _), step, aS (by omega), decide_eq_true_eq]
        simp
      · rw [if_neg e, a3 d hd]
        congr 1
        refine bq fun j => Bool.eq_iff_iff.2 ?_
        rw [br (h64 _), br (h64 _), step]
        simp [e]
    · rw [if_neg hi]
      refine ⟨_, rfl, a2, fun d hd => ?_⟩
      have := a3 d hd
      rwa [List.take_of_length_le (by omega)] at this
  · simp only
    rw [List.getElem?_replicate, if_pos hd]
    refine congrArg some ?_
    refine bq fun j => Bool.eq_iff_iff.2 ?_
    rw [bt, br (by simp)]
    simp
theorem kW (q : Lb Nat) (k : Nat) (h : q.length<=64) (k8 : k<=8) (hq : ∀ x∈q, x<k) (hall : ∀ d, d<k->d∈q) : ∃ ms, bj_p FU (ak q) (k : Int)=some (ms, true)/\ms.length=k/\∀ d, d<k->ms[d]? = some (cls q d) := by
  obtain ⟨ms, e, l1, l2⟩ := sU q k h k8 hq
  refine ⟨ms, ?_, l1, l2⟩
  unfold bj_p
  rw [cF k _ (by omega)]
  simp only [aa]
  rw [e]
  simp only [aa]
  obtain ⟨y, e2, rfl⟩ := am (B := bj_l1 FU (k : Int) ms) (fun z : Int => k-z.toNat) (fun z => 0<=z) (fun y => y=.inr ()) (fun z J a1 hJ => by
    unfold bj_l1
    by_cases hz : z<(k : Int)
    · obtain ⟨d, rfl⟩ : ∃ d : Nat, z=d := ⟨z.toNat, by omega⟩
      rw [if_pos hz, aF, l2 d (by omega)]
      simp only [aa]
      rw [if_neg ((jQ h d).2 (hall d (by omega))), aQ (by omega) (by omega)]
      simp only [aa]
      exact hJ _ (by omega) (by omega)
    · rw [if_neg hz]; exact ⟨_, rfl, rfl⟩) FU 0 (by omega) (av (by omega))
  rw [e2]
  rfl
theorem sy {g : Tc} (hg : Valid g) {q : Lb Nat} {k : Nat} (hn : g.fN=(q.length : Int)) (h : q.length<=64) (h1 : 1<=q.length) (k1 : 1<=k) (k8 : k<=8) (hq : ∀ x∈q, x<k) (hall : ∀ d, d<k->d∈q) : ct_p FU g (ak q) (k : Int)=some 0 := by
  obtain ⟨ms, e, _⟩ := kW q k h k8 hq hall
  unfold ct_p
  rw [hg.check (av (by omega))]
  simp only [aa]
  rw [ifT, if_neg (by omega), if_neg (by omega), if_pos (by rw [aq, hn]), gk q k h h1 hq]
  simp only [aa]
  rw [ifT, e]
  rfl
theorem nI {q : Lb Nat} {k : Nat} (h : q.length<=64) (h1 : 1<=q.length) (k1 : 1<=k) (k8 : k<=8) (hq : ∀ x∈q, x<k) (hall : ∀ d, d<k->d∈q) : ∃ ms, cn_p FU (ak q) (k : Int)=some (ms, 0)/\ms.length=k/\∀ d, d<k->ms[d]? = some (cls q d) := by
  obtain ⟨ms, e, l1, l2⟩ := kW q k h k8 hq hall
  refine ⟨ms, ?_, l1, l2⟩
  unfold cn_p
  rw [if_neg (by omega), if_neg (by omega), gk q k h h1 hq]
  simp only [aa]
  rw [ifT, e]
  rfl
theorem iF {α : Type} {xs : Lb α} {i : Nat} (s : α) (h : i<xs.length) : (xs.set i s).take (i+1)=xs.take i++[s] := by
  rw [List.take_succ_eq_append_getElem (by simpa using h), List.getElem_set_self, List.take_set_of_le (Nat.le_refl _)]
/-- The canonical form: labels in the order in which they are seen. -/
def bv : Lb Nat->Lb Nat->Lb Nat
  | _, [] => []
  | S, x::q => S.idxOf x::bv (if x∈S then S else S++[x]) q
theorem dZ : ∀ (q S : Lb Nat), (bv S q).length=q.length
  | [], _ => rfl
  | _x::q, _S => congrArg (·+1) (dZ q _)
theorem jJ : ∀ (q S : Lb Nat), Rgs S.length (bv S q)
  | [], _ => trivial
  | x::q, S => by
    refine ⟨List.idxOf_le_length, ?_⟩
    have ih := jJ q (if x∈S then S else S++[x])
    by_cases hx : x∈S
    · rw [if_pos hx] at ih
      rw [if_pos (List.idxOf_lt_length_of_mem hx), if_pos hx]; exact ih
    · rw [if_neg hx, List.length_append] at ih
      rw [if_neg (by rw [List.idxOf_eq_length hx]; omega), if_neg hx]; exact ih
/-- The labels in the order in which they are seen. -/
def bZ : Lb Nat->Lb Nat->Lb Nat
  | S, [] => S
  | S, x::q => bZ (if x∈S then S else S++[x]) q
theorem mE : ∀ (q S : Lb Nat), ∃ T, bZ S q=S++T
  | [], S => ⟨[], (List.append_nil S).symm⟩
  | x::q, S => by
    obtain ⟨T, e⟩ := mE q (if x∈S then S else S++[x])
    rw [bZ, e]
    split
    · exact ⟨T, rfl⟩
    · exact ⟨[x]++T, by rw [List.append_assoc]⟩
theorem mN : ∀ (q S : Lb Nat) (x : Nat), x∈bZ S q↔x∈S∨x∈q
  | [], S, x => by simp [bZ]
  | y::q, S, x => by
    rw [bZ, mN q, List.mem_cons]
    by_cases hy : y∈S
    · rw [if_pos hy]
      constructor
      · rintro (h | h)
        · exact .inl h
        · exact .inr (.inr h)
      · rintro (h | rfl | h)
        · exact .inl h
        · exact .inl hy
        · exact .inr h
    · rw [if_neg hy, List.mem_append, List.mem_singleton, or_assoc]
theorem gn : ∀ (q S : Lb Nat), S.Nodup->(bZ S q).Nodup
  | [], S, h => h
  | y::q, S, h => by
    rw [bZ]
    by_cases hy : y∈S
    · rw [if_pos hy]; exact gn q S h
    · rw [if_neg hy]
      refine gn q _ (List.nodup_append.2 ⟨h, by simp, fun a ha b hb e => hy ?_⟩)
      rw [List.mem_singleton.1 hb] at e
      exact e ▸ ha
theorem iz : ∀ (q S : Lb Nat), bv S q=q.map (bZ S q).idxOf
  | [], _ => rfl
  | x::q, S => by
    rw [bv, List.map_cons, iz q, bZ]
    obtain ⟨T, e⟩ := mE q (if x∈S then S else S++[x])
    congr 1
    rw [e]
    by_cases hx : x∈S
    · rw [if_pos hx, List.idxOf_append, if_pos hx]
    · rw [if_neg hx, List.append_assoc, List.idxOf_append, if_neg hx, List.idxOf_eq_length hx]
      simp
theorem gr : ∀ (q : Lb Nat) (m : Nat), Rgs m q->bv (List.range m) q=q
  | [], _, _ => rfl
  | x::q, m, h => by
    obtain ⟨h1, h2⟩ := h
    rw [bv]
    by_cases hx : x<m
    · rw [if_pos hx] at h2
      rw [if_pos (List.mem_range.2 hx), gr q m h2]
      congr 1
      have h3 := List.idxOf_lt_length_of_mem (List.mem_range.2 hx)
      have h4 := List.getElem_idxOf h3
      rwa [List.getElem_range] at h4
    · rw [if_neg hx] at h2
      obtain rfl : x=m := by omega
      rw [if_neg (by simp), <- List.range_succ, gr q _ h2, List.idxOf_eq_length (by simp), List.length_range]
theorem iA (q : Lb Nat) (h : q.length<=64) (h1 : 1<=q.length) (hq : ∀ x∈q, x<8) : bH_p FU (ak q)=some (ak (bv [] q), 0) := by
  unfold bH_p
  rw [show (8 : Int)=((8 : Nat) : Int) from I, gk q 8 h h1 hq]
  simp only [aa]
  rw [ifT, cF _ _ (by rw [aq]; omega)]
  simp only [aa]
  obtain ⟨r, e, rfl⟩ := am (B := bH_l1 FU (ak q)) (fun s : Nat×Lb Int×Lb (Int×Int) => q.length-s.1) (fun s => ∃ S, s.1<=q.length/\s.2.1.length=q.length/\(∀ x : Nat, aP s.2.2 (x : Int)=if x∈S then some ((S.idxOf x : Nat) : Int) else none)/\s.2.2.length=S.length/\s.2.1.take s.1++ak (bv S (q.drop s.1))=ak (bv [] q)) (fun r => r=ak (bv [] q)) (fun ⟨i, xs, D⟩ J ⟨S, a1, a2, a3, a4, a5⟩ hJ => by
    simp only at a1 a2 a3 a4 a5 hJ
    unfold bH_l1
    simp only [aq]
    by_cases hi : i<q.length
    · rw [if_pos hi, ca, geE hi]
      simp only [Option.map_some, aa]
      have hd := List.drop_eq_getElem_cons hi
      rw [hd, bv] at a5
      have fin : ∀ z : Nat, ∀ T, z=S.idxOf q[i]->T=(if q[i]∈S then S else S++[q[i]])->(xs.set i (z : Int)).take (i+1)++ak (bv T (q.drop (i+1)))=ak (bv [] q) := fun z T e1 e2 => by
        rw [<- a5, iF _ (by omega), List.append_assoc, e1, e2]
        rfl
      unfold jn
      simp only
      have hg : xs[i]? = some xs[i] := geE (by omega)
      by_cases hx : q[i]∈S
      · rw [if_pos (by rw [a3, if_pos hx]; rfl), hg]
        simp only [aa]
        rw [bc _ (by omega)]
        simp only [aa]
        refine hJ _ ⟨S, hi, by simpa using a2, a3, a4, ?_⟩ (by simp only; omega)
        simp only
        rw [ap, a3, if_pos hx]
        exact fin _ S I (if_pos hx).symm
      · rw [if_neg (by rw [a3, if_neg hx]; simp), hg]
        simp only [aa]
        rw [bc _ (by omega)]
        simp only [aa]
        refine hJ _ ⟨S++[q[i]], hi, by simpa using a2, fun x => ?_, ?_, ?_⟩ (by simp only; omega)
        · simp only
          rw [fL]
          by_cases e : x=q[i]
          · subst e
            rw [if_pos rfl, if_pos (by simp), List.idxOf_append, if_neg hx, a4]
            simp
          · rw [if_neg (by omega), a3]
            by_cases hS : x∈S
            · rw [if_pos hS, if_pos (by simp [hS]), List.idxOf_append, if_pos hS]
            · rw [if_neg hS, if_neg (by simp [hS, e])]
        · simp only
          have : ∀ (D : Lb (Int×Int)) (k v : Int), aP D k=none->(aH D k v).length=D.length+1 := by
            intro D k v
            induction D with
            | nil => intro _; rfl
            | cons e D ih =>
              intro hk
              unfold aP at hk
              unfold aH
              split at hk
              · cases hk
              · rename_i hne
                rw [if_neg hne, leC, leC, ih hk]
          rw [this _ _ _ (by rw [a3, if_neg hx]), List.length_append, a4]
          rfl
        · simp only
          exact fin _ _ (by rw [a4, List.idxOf_eq_length hx]) (if_neg hx).symm
    · rw [if_neg hi]
      refine ⟨_, rfl, ?_⟩
      rw [List.drop_eq_nil_of_le (by omega), List.take_of_length_le (by omega)] at a5
      simpa [bv, ak] using a5) FU (0, List.replicate (ak q).length 0, []) ⟨[], by simp, by simp [aq], fun x => by simp [aP], rfl, by simp⟩ (av (by simp only; omega))
  rw [e]
  rfl
end Go.Proofs.YtkimkkgicmipbaaGreatDoor
