/- Laws of the walk: arrays as slices, tables, lending. No program in sight. -/
import Derived.Test.YtplkfbljncfdnaaDoorMe
import Derived.Laws.CopyRow
import Derived.Laws.IdiomCopy
namespace Go.Proofs.YtplkfbljncfdnaaDoor
open Go Go.RowKit

section
variable {P : Program} {σ : List (Nat × Value)} {w : World} {x y : Operand} {d : Option Tmp} {t t' ty : TypeId} {ps : String} {af : Array Edge} {g : Option (Nat × Bool)}
theorem FV.as {o : Oper} {v u : Value} (h : FV P o σ w v) (e : v = u) : FV P o σ w u := e ▸ h
/-- An array as a slice. -/
theorem FV.sliceA {len m : Nat} {p : Addr} (ht : arrB P t len m = true) (hx : ev σ x = some (.pointer (some p))) : FV P ⟨d, .slice t x none none none, ty, ps, af, g⟩ σ w (.slice (some p) len len) := by
  refine fun ρ ha w' _ => ?_
  unfold arrB at ht
  split at ht
  · rename_i l e hu
    rw [Bool.and_eq_true] at ht
    obtain ⟨h1, h2⟩ := ht
    have hl : l = len := by simpa using h1
    subst hl
    split at h2
    · rename_i j hj
      have hs : j.size = m := by simpa using h2
      simp [execOp, ha _ _ hx, Instr.sliceAt, Instr.sliceBounds, Instr.sureAddr, run_underlying hu, sizeOf, typeInfo, hj]
      intro _; cases p; simp [Addr.add]
    · cases h2
  · cases ht
end
theorem bind_in2 {α β : Type} {o : Option α} {r : β} {K : α → Option β} (h : o.bind K = some r) : ∃ x, o = some x ∧ ∀ y, some y = some x → K y = some r := by
  cases o with
  | none => cases h
  | some x => exact ⟨x, rfl, fun y e => by cases e; exact h⟩
section
variable {w w0 w9 : World} {O : List Ob} {L : List Nat}
theorem St.hL0 (s : St w0 w O) (hL : ∀ b ∈ L, b < w0.heap.size) (hw : Agree [] w w9) : ∀ b ∈ L, b < w9.heap.size := fun b hb => (s.hL (L := L) hL hw) b (List.mem_append.2 (.inr hb))
end

section
variable {α : Type} [Rep α] {P : Program} {σ τ : List (Nat × Value)} {w w0 : World} {O O' : List Ob} {L : List Nat} {v v' dv sv : Value} {xs ys zs : List α} {cs : List Value} {e : TypeId} {base lo m : Nat} {x y : Operand} {d : Option Tmp} {t t' ty : TypeId} {ps : String} {af : Array Edge} {g : Option (Nat × Bool)}
theorem Cells.part (h : Cells w L cs xs) (hle : lo + m ≤ xs.length) : Cells w L ((cs.drop (lo * Rep.size α)).take (m * Rep.size α)) ((xs.drop lo).take m) := by
  obtain ⟨h1, h2⟩ := h
  have hl : ((xs.drop lo).take m).length = m := by rw [List.length_take, List.length_drop]; omega
  have hmul : lo * Rep.size α + m * Rep.size α ≤ cs.length := by rw [h1, ← Nat.add_mul]; exact Nat.mul_le_mul_right _ hle
  refine ⟨by rw [hl, List.length_take, List.length_drop]; omega, fun i hi => ?_⟩
  have hi' : i < m := by rw [hl] at hi; exact hi
  have e1 : ((xs.drop lo).take m)[i] = xs[lo + i]'(by omega) := by simp
  have e2 : (((cs.drop (lo * Rep.size α)).take (m * Rep.size α)).drop (i * Rep.size α)).take (Rep.size α) = (cs.drop ((lo + i) * Rep.size α)).take (Rep.size α) := by
    rw [List.drop_take, List.drop_drop, List.take_take, ← Nat.sub_mul, Nat.min_eq_left (Nat.le_mul_of_pos_left _ (by omega)), Nat.add_mul]
  rw [e1, e2]
  exact h2 (lo + i) (by omega)
/-- A slice that is a part of an own one. -/
structure SubV (v v' : Value) (lo sz m n : Nat) : Prop where
  le : lo + m ≤ n
  at_ : ∃ A c, v' = .slice A m c ∧ (m ≠ 0 → ∃ bk c0, v = .slice (some ⟨bk, 0, none⟩) n c0 ∧ A = some ((⟨bk, 0, none⟩ : Addr).add (lo * sz)))
theorem SubV.whole (s : St w0 w O) (u : At O (.row base e (Rep.size α) v xs.length cs)) : SubV v v 0 (Rep.size α) xs.length xs.length := by
  obtain ⟨A, c, h1, _, _, _, h5, _⟩ := s.rowForm u.upd
  refine ⟨by omega, A, c, h1, fun h0 => ?_⟩
  obtain ⟨bk, rfl⟩ := h5 (by omega)
  exact ⟨bk, c, h1, by simp [Addr.add]⟩
theorem FV.cutRow {l u : Int} {lo hi : Option Operand} (hc : Proofs.YtplkfbljncfdnaaDoor.cut xs l u = some ys) (s : St w0 w O) (q : At O (.row base e (Rep.size α) v xs.length cs)) (ht : elemB P t (Rep.size α) = true) (hx : ev σ x = some v)
    (hlo : match lo with | none => l = 0 | some y => ∃ k, ev σ y = some (.int k l)) (hhi : match hi with | none => u = (xs.length : Int) | some y => ∃ k, ev σ y = some (.int k u)) :
    ∃ v', FV P ⟨d, .slice t x lo hi none, ty, ps, af, g⟩ σ w v' ∧ SubV v v' l.toNat (Rep.size α) ys.length xs.length := by
  obtain ⟨rfl, h1, h2, h3, h4⟩ := cut_in hc
  obtain ⟨A, c, rfl, hm, h5, h6, h7, h8⟩ := s.rowForm q.upd
  have hcap : xs.length ≤ c := by
    have hh := s.get q.upd
    obtain ⟨⟨_, hh⟩, _⟩ := hh
    rcases hh with ⟨hh, h0⟩ | ⟨g', cap', cur, he, hbase, hgk, hnc, hcm, hcur, htake⟩
    · rw [h0]; exact Nat.zero_le _
    · cases he; exact hnc
  unfold elemB at ht
  split at ht
  · rename_i e hun
    split at ht
    · rename_i j hj
      have hs : j.size = Rep.size α := by simpa using ht
      have hlen : ((xs.take u.toNat).drop l.toNat).length = u.toNat - l.toNat := by rw [List.length_drop, List.length_take]; omega
      refine ⟨.slice (if c = l.toNat then A else A.map (·.add (l.toNat * Rep.size α))) (u.toNat - l.toNat) (c - l.toNat), ?_, by rw [hlen]; omega, _, c - l.toNat, by rw [hlen], fun h0 => ?_⟩
      · intro ρ ha w' _
        have hb : (Instr.sliceBounds true xs.length c (lo.map ρ) (hi.map ρ) none).run P w' = .ok (l.toNat, u.toNat, c) w' := by
          cases lo with
          | none =>
            simp only at hlo
            have hl0 : l.toNat = 0 := by omega
            cases hi with
            | none => simp only at hhi; have : u.toNat = xs.length := by omega
                      simp [Instr.sliceBounds, hl0, this]
            | some y => obtain ⟨k, hy⟩ := hhi; simp [Instr.sliceBounds, Instr.sliceBound, ha _ _ hy, asIntOf, hl0]; omega
          | some z =>
            obtain ⟨k, hz⟩ := hlo
            cases hi with
            | none => simp only at hhi; have : u.toNat = xs.length := by omega
                      simp [Instr.sliceBounds, Instr.sliceBound, ha _ _ hz, asIntOf, this]; omega
            | some y => obtain ⟨k', hy⟩ := hhi; simp [Instr.sliceBounds, Instr.sliceBound, ha _ _ hy, ha _ _ hz, asIntOf]; rw [if_pos (by omega)]; simp; omega
        have hsz : (sizeOf e).run P w' = .ok (Rep.size α) w' := by simp [sizeOf, typeInfo, hj, hs]
        simp only [execOp, ha _ _ hx, Instr.sliceAt]
        simp [Instr.slice, run_underlying hun, hb, hsz]
      · rw [hlen] at h0
        obtain ⟨bk, rfl⟩ := h7 (by omega)
        exact ⟨bk, c, rfl, by rw [if_neg (by omega)]; rfl⟩
    · cases ht
  · cases ht
theorem Src.sub (s : St w0 w O) (q : At O (.row base e (Rep.size α) v xs.length cs)) (hc : Cells w L cs xs) {l u : Int} (hcut : Proofs.YtplkfbljncfdnaaDoor.cut xs l u = some ys) (h : SubV v v' l.toNat (Rep.size α) ys.length xs.length) : Src w L v' ys := by
  obtain ⟨hy, h1, h2, h3, h4⟩ := cut_in hcut
  have hlen : ys.length = u.toNat - l.toNat := by rw [hy, List.length_drop, List.length_take]; omega
  have hy' : ys = (xs.drop l.toNat).take ys.length := by rw [hlen, ← List.drop_take]; exact hy
  obtain ⟨A, c, e1, e2⟩ := h.at_
  have hp := Cells.part (lo := l.toNat) (m := ys.length) hc (by omega)
  refine ⟨A, c, _, e1, by rw [← hy'] at hp; exact hp, fun ad hA => ?_, fun hA => ?_⟩
  · intro j v9 hj
    by_cases h0 : ys.length = 0
    · rw [h0] at hj; simp at hj
    · obtain ⟨bk, c0, rfl, hA2⟩ := e2 h0
      obtain ⟨A', c', hv, _, _, _, _, h8⟩ := s.rowForm q.upd
      cases hv
      rw [hA] at hA2; cases hA2
      exact mem_part (h8 _ rfl) _ _ j v9 hj
  · by_cases h0 : ys.length = 0
    · exact h0
    · obtain ⟨bk, c0, _, hA2⟩ := e2 h0
      rw [hA] at hA2; cases hA2
/-- What a copy leaves. -/
def cpy {α : Type} (xs : List α) (lo m : Nat) (ys : List α) : List α := xs.take lo ++ ys.take (min ys.length m) ++ xs.drop (lo + min ys.length m)
theorem cpy_length {α : Type} {xs ys : List α} {lo m : Nat} (h : lo + m ≤ xs.length) : (cpy xs lo m ys).length = xs.length := by
  unfold cpy
  simp only [List.length_append, List.length_take, List.length_drop]
  omega
theorem DoesL.copy {F : List Value → List Ob} (hsz : Rep.size α = 1) (s : St w0 w O) (h : SubV v dv lo (Rep.size α) m xs.length) (u : ∀ cs', Upd O (.row base e (Rep.size α) v xs.length cs) (.row base e (Rep.size α) v (cpy xs lo m ys).length cs') (F cs')) (ht : elemB P t (Rep.size α) = true)
    (hx : ev σ x = some dv) (hy : ev σ y = some sv) (hc : Cells w (bl O ++ L) cs xs) (hs : Src w (bl O ++ L) sv ys) :
    DoesL P ⟨d, .call { callee := .builtin .copy, args := #[x, y], argTypes := #[t, t'] }, ty, ps, af, g⟩ σ w (fun r w1 => r = .int .i64 ((min ys.length m : Nat) : Int) ∧ ∃ cs', St w0 w1 (F cs') ∧ Tr w O w1 (F cs') ∧ Cells w1 (bl (F cs') ++ L) cs' (cpy xs lo m ys)) := by
  intro ρ ha w' hw
  obtain ⟨As, cc, ds, rfl, g2, g3, g4⟩ := hs
  obtain ⟨Ad, cd, rfl, g6⟩ := h.at_
  have hle := h.le
  have hlen := cpy_length (ys := ys) hle
  have hu2 := u
  unfold elemB at ht
  split at ht
  · rename_i el hun
    split at ht
    · rename_i jj hjj
      have hinfo : (P.info? el).map (·.size) = some 1 := by rw [hjj]; simp; rw [← hsz]; simpa using ht
      have hcs : cs.length = xs.length := by rw [hc.1, hsz, Nat.mul_one]
      have hds : ds.length = ys.length := by rw [g2.1, hsz, Nat.mul_one]
      have hCells : Cells w (bl O ++ L) (cs.take lo ++ ds.take (min ys.length m) ++ cs.drop (lo + min ys.length m)) (cpy xs lo m ys) := by
        unfold cpy
        have p1 := Cells.part (lo := 0) (m := lo) hc (by omega)
        have p2 := Cells.part (lo := 0) (m := min ys.length m) g2 (by omega)
        have p3 := Cells.part (lo := lo + min ys.length m) (m := xs.length - (lo + min ys.length m)) hc (by omega)
        rw [hsz] at p1 p2 p3
        simp only [Nat.zero_mul, List.drop_zero, Nat.mul_one] at p1 p2 p3
        rw [List.take_of_length_le (by rw [List.length_drop]; omega), List.take_of_length_le (by rw [List.length_drop]; omega)] at p3
        exact (p1.append p2).append p3
      by_cases hk : min ys.length m = 0
      · refine ⟨.int .i64 0, w', ?_, by rw [hk]; rfl, cs, ?_⟩
        · have := run_copy_none (P := P) w' t t' ty el Ad As m cd ys.length cc hun hinfo hk
          simp only [execOp, resolve, invoke, builtin, Array.map, ha _ _ hx, ha _ _ hy]
          simp [ha _ _ hx, ha _ _ hy, this, goInt]
        · have e0 : cpy xs lo m ys = xs := by unfold cpy; rw [hk]; simp
          rw [hk] at hCells
          simp only [List.take_zero, List.append_nil, Nat.add_zero, List.take_append_drop] at hCells
          have hsame : Upd O (.row base e (Rep.size α) v xs.length cs) (.row base e (Rep.size α) v xs.length cs) (F cs) := by have := u cs; rwa [e0] at this
          have hag : Agree [] w w' := hw
          have hst := s.upd hsame (L := []) hag (by simp) (Ob.keep (s.get (u cs)) hag (by simp)) (fun b hb => .inl hb)
          have htr : Tr w O w' (F cs) := Tr.upd hsame (L := []) hag (by simp) (fun b hb => .inl hb)
          exact ⟨hst, htr, hCells.mv htr⟩
      · obtain ⟨bk, c0, rfl, rfl⟩ := g6 (by omega)
        cases hAs : As with
        | none => have := g4 hAs; omega
        | some a =>
          obtain ⟨⟨hl, hh⟩, hmost⟩ := s.get (u cs)
          rcases hh with ⟨hh, _⟩ | ⟨g', cap', cur, he, hbase, hgk, hnc, hcm, hcur, htake⟩
          · cases hh
          · cases he
            have hb' : w'.heap[bk]? = some (.cells cur.toList.toArray e (0, 0)) := blk_keep0 hw (by simpa using hgk)
            have hcurl : cs.length ≤ cur.toList.length := by rw [← htake, List.length_take]; omega
            have key := run_copy_row (P := P) w' t t' ty el bk lo m cd a ys.length cc cur e (ds.take (min ys.length m)) hun hinfo (by simpa using hb') (by rw [List.length_take, hds]; show _ = min _ _; omega)
              (fun j u9 hj => hw.cell0 (mem_part0 (g3 a hAs) _ j u9 hj)) (by rw [List.length_take, hds, ← Array.length_toList]; omega) (fun u9 hm => g2.cell u9 (List.mem_of_mem_take hm))
            have hadd : (⟨bk, 0, none⟩ : Addr).add (lo * Rep.size α) = ⟨bk, lo, none⟩ := by rw [hsz, Nat.mul_one]; unfold Addr.add; split <;> simp_all
            have hkl : (ds.take (min ys.length m)).length = min ys.length m := by rw [List.length_take, hds]; omega
            rw [hkl] at key
            refine ⟨.int .i64 ((min ys.length m : Nat) : Int), w'.setRow bk (cur.toList.take lo ++ ds.take (min ys.length m) ++ cur.toList.drop (lo + min ys.length m)).toArray, ?_, rfl, cs.take lo ++ ds.take (min ys.length m) ++ cs.drop (lo + min ys.length m), ?_⟩
            · simp only [execOp, resolve, invoke, builtin, Array.map, ha _ _ hx, ha _ _ hy]
              simp only [hadd, Sem.run_bind]
              simp [ha _ _ hx, ha _ _ hy, hadd, hAs, key, goInt]
            · have hkk : (ds.take (min ys.length m)).length = min ys.length m := hkl
              generalize hnews : ds.take (min ys.length m) = news at *
              generalize hkn : min ys.length m = kk at *
              have hag : Agree [bk] w (w'.setRow bk (cur.toList.take lo ++ news ++ cur.toList.drop (lo + kk)).toArray) := (hw.widen).trans (agree_setRow hb' _)
              have hL : ∀ b ∈ [bk], (Ob.row base e (Rep.size α) (.slice (some ⟨bk, 0, none⟩) xs.length c0) xs.length cs).block = some b := by simp [Ob.block, Value.ownBlock]
              have hnl : (cs.take lo ++ news ++ cs.drop (lo + kk)).length = cs.length := by simp only [List.length_append, List.length_take, List.length_drop]; omega
              have u9 := u (cs.take lo ++ news ++ cs.drop (lo + kk))
              have hst := s.upd u9 hag hL ⟨⟨by rw [hnl, hlen, hl], .inr ⟨bk, _, _, by rw [hlen], hbase, setRow_heap w' bk _ _ e _ hb', by rw [hlen]; exact hnc, hcm, ?_, ?_⟩⟩, by rw [hlen]; exact hmost⟩ (fun b e => .inl e)
              have htr : Tr w O _ _ := Tr.upd u9 hag hL (fun b e => .inl e)
              · exact ⟨hst, htr, hCells.mv htr⟩
              · rw [List.size_toArray]; simp only [List.length_append, List.length_take, List.length_drop]
                rw [← hcur, ← Array.length_toList]; omega
              · rw [List.toList_toArray, hlen]
                have hn : xs.length * Rep.size α = cs.length := hl.symm
                have hoc : ∀ i, i < cs.length → cs[i]? = cur.toList[i]? := fun i hi => by rw [← htake, List.getElem?_take_of_lt (by omega)]
                apply List.ext_getElem?
                intro i
                rcases Nat.lt_or_ge i cs.length with hi | hi
                · rw [List.getElem?_take_of_lt (by omega)]
                  rcases Nat.lt_or_ge i lo with h2 | h2
                  · rw [List.append_assoc, List.append_assoc, List.getElem?_append_left (by rw [List.length_take]; omega), List.getElem?_append_left (by rw [List.length_take]; omega), List.getElem?_take_of_lt h2, List.getElem?_take_of_lt h2, hoc i hi]
                  · rcases Nat.lt_or_ge i (lo + news.length) with h3 | h3
                    · rw [List.getElem?_append_left (by rw [List.length_append, List.length_take]; omega), List.getElem?_append_right (by rw [List.length_take]; omega), List.getElem?_append_left (by rw [List.length_append, List.length_take]; omega), List.getElem?_append_right (by rw [List.length_take]; omega), List.length_take, List.length_take, Nat.min_eq_left (by omega), Nat.min_eq_left (by omega)]
                    · rw [List.getElem?_append_right (by rw [List.length_append, List.length_take]; omega), List.getElem?_append_right (by rw [List.length_append, List.length_take]; omega), List.getElem?_drop, List.getElem?_drop, List.length_append, List.length_append, List.length_take, List.length_take, Nat.min_eq_left (by omega), Nat.min_eq_left (by omega), show lo + kk + (i - (lo + news.length)) = i by omega, hoc i hi]
                · rw [List.getElem?_eq_none (by rw [List.length_take]; omega), List.getElem?_eq_none (by simp only [List.length_append, List.length_take, List.length_drop]; omega)]
    · cases ht
  · cases ht
end
section
variable {P : Program} {σ : List (Nat × Value)} {w : World} {x y : Operand} {d : Option Tmp} {t t' ty : TypeId} {ps : String} {af : Array Edge} {g : Option (Nat × Bool)}
def shr16 (x : UInt16) (k : Nat) : UInt16 := if k < 16 then UInt16.ofNat (x.toNat / 2 ^ k) else 0
theorem FV.shr16 {k : IntKind} {j : Nat} {a : UInt16} (hx : ev σ x = some (.int .u16 (a.toNat : Int))) (hy : ev σ y = some (.int k ((j : Nat) : Int))) : FV P ⟨d, .binOp .shr t x y t', ty, ps, af, g⟩ σ w (.int .u16 ((Proofs.YtplkfbljncfdnaaDoor.shr16 a j).toNat : Int)) := fun ρ ha w' _ => by
  have e : (a.toNat : Int).fdiv (2 ^ (min j 16)) = ((Proofs.YtplkfbljncfdnaaDoor.shr16 a j).toNat : Int) := by
    have hlt := a.toNat_lt
    rw [show (2 : Int) ^ (min j 16) = ((2 ^ (min j 16) : Nat) : Int) by simp, show (a.toNat : Int).fdiv ((2 ^ (min j 16) : Nat) : Int) = ((a.toNat / 2 ^ (min j 16) : Nat) : Int) by rw [Int.fdiv_eq_ediv_of_nonneg _ (Int.natCast_nonneg _)]; rfl]
    unfold Proofs.YtplkfbljncfdnaaDoor.shr16
    split
    · rename_i h
      rw [Nat.min_eq_left (by omega), UInt16.toNat_ofNat_of_lt']
      exact Nat.lt_of_le_of_lt (Nat.div_le_self _ _) hlt
    · rename_i h
      rw [Nat.min_eq_right (by omega), Nat.div_eq_of_lt (by simpa using hlt)]; rfl
  have hs : (Op.shift .shr .u16 (a.toNat : Int) k (j : Int)).run P w' = .ok (.int .u16 ((Proofs.YtplkfbljncfdnaaDoor.shr16 a j).toNat : Int)) w' := by
    rw [← e]; unfold Op.shift; rw [if_neg (by omega)]; simp [IntKind.bits]
  simp [execOp, ha _ _ hx, ha _ _ hy, eqGuard, binOp, hs]
theorem FV.and16 {a b : UInt16} (hx : ev σ x = some (.int .u16 (a.toNat : Int))) (hy : ev σ y = some (.int .u16 (b.toNat : Int))) : FV P ⟨d, .binOp .and t x y t', ty, ps, af, g⟩ σ w (.int .u16 ((a &&& b).toNat : Int)) := fun ρ ha w' _ => by
  have e : IntKind.u16.wrap (((BitVec.ofInt 16 (a.toNat : Int)) &&& (BitVec.ofInt 16 (b.toNat : Int))).toNat : Int) = ((a &&& b).toNat : Int) := by
    have h1 : BitVec.ofInt 16 (a.toNat : Int) = a.toBitVec := by apply BitVec.eq_of_toNat_eq; simp
    have h2 : BitVec.ofInt 16 (b.toNat : Int) = b.toBitVec := by apply BitVec.eq_of_toNat_eq; simp
    rw [h1, h2, show a.toBitVec &&& b.toBitVec = (a &&& b).toBitVec by simp, show ((a &&& b).toBitVec).toNat = (a &&& b).toNat from rfl]
    have := (a &&& b).toNat_lt
    generalize (a &&& b).toNat = q at *
    simp only [IntKind.wrap, IntKind.bits, IntKind.signed]
    simp
    omega
  have hs : (Op.intBits .and .u16 (a.toNat : Int) (b.toNat : Int)).run P w' = .ok (.int .u16 ((a &&& b).toNat : Int)) w' := by
    rw [← e]; rfl
  simp [execOp, ha _ _ hx, ha _ _ hy, eqGuard, binOp, hs]
end
theorem ones_nil : ∀ u ∈ ([] : List Value), u.oneCell' = true := fun u h => by cases h
theorem ones_cons {v : Value} {l : List Value} (h : v.oneCell' = true) (h2 : ∀ u ∈ l, u.oneCell' = true) : ∀ u ∈ v :: l, u.oneCell' = true := fun u hu => by
  rcases List.mem_cons.1 hu with rfl | hu
  · exact h
  · exact h2 u hu
section
variable {α : Type} [Rep α] {w w0 : World} {O : List Ob} {L : List Nat} {v : Value} {xs : List α} {cs : List Value} {e : TypeId} {base : Nat}
theorem Rep.c1 (h : Rep.R w L [v] xs) : v.cells = [v].toArray := by obtain ⟨A, c, rfl, _⟩ := Rep.sl h; rfl
theorem Rep.o1 (h : Rep.R w L [v] xs) : v.oneCell' = true := by obtain ⟨A, c, rfl, _⟩ := Rep.sl h; rfl
theorem St.c1 (s : St w0 w O) (u : At O (.row base e (Rep.size α) v xs.length cs)) : v.cells = [v].toArray := by obtain ⟨A, c, rfl⟩ := s.rowV u; rfl
theorem St.o1 (s : St w0 w O) (u : At O (.row base e (Rep.size α) v xs.length cs)) : v.oneCell' = true := by obtain ⟨A, c, rfl⟩ := s.rowV u; rfl
end
/-! ### Ranges over functions in loops: as many deferred records as rounds -/
@[reducible] def defs (Ds : List Nat) : List Ob := Ds.map fun D => .obj D (.deferred (some []))
@[reducible] def cols (Ds : List Nat) : List Deferred := Ds.map fun D => { target := .collected D, args := #[] }
/-- Some objects, in another order; the rest as it is. -/
inductive Arr2 : List Ob → List Ob → Prop
  | rest {O : List Ob} : Arr2 O O
  | one {O O1 O' : List Ob} {o : Ob} (h : Out O o O1) (h2 : Arr2 O1 O') : Arr2 O (o :: O')
  | drop {O O1 O' : List Ob} {o : Ob} (h : Out O o O1) (h2 : Arr2 O1 O') : Arr2 O O'
theorem Arr2.bl {O O' : List Ob} (h : Arr2 O O') {b : Nat} (hb : b ∈ bl O') : b ∈ bl O := by
  induction h with
  | rest => exact hb
  | one h _ ih =>
    rcases mem_bl_cons.1 hb with e | e
    · exact h.mem e
    · exact h.del.bl (ih e)
  | drop h _ ih => exact h.del.bl (ih hb)
theorem Arr2.owns {w : World} {O O' : List Ob} (h : Arr2 O O') (ho : Owns w O) : Owns w O' := by
  induction h with
  | rest => exact ho
  | one h h2 ih =>
    obtain ⟨h3, h4⟩ := h.get ho
    exact ⟨h3, fun b e hm => h4 b e (h2.bl hm), ih (h.del.owns ho)⟩
  | drop h h2 ih => exact ih (h.del.owns ho)
theorem St.arr2 {w0 w : World} {O O' : List Ob} (s : St w0 w O) (h : Arr2 O O') : St w0 w O' := ⟨s.ag, fun b hb => s.new b (h.bl hb), h.owns s.ok⟩
theorem Tr.arr2 {w : World} {O O' : List Ob} (h : Arr2 O O') : Tr w O w O' := ⟨Agree.refl _ _, fun _ hb => .inl (h.bl hb)⟩
theorem St.arr2Of {w0 w : World} {O O' : List Ob} (_ : St w0 w O) (h : Arr2 O O') : Arr2 O O' := h
section
variable {P : Program} {Z : Machine → Prop} {b : Frame} {n : Nat} {ds : List Deferred} {cs : List Frame} {k : List Item} {σ τ : List (Nat × Value)} {w w0 : World}
theorem MX.joinD {α γ O : Type} {K : γ → Option O} {B : (γ → Option O) → Option O} {r : O} {it : Item} (S : α → List (Nat × Value)) (R : α → World → Prop) (p : α → γ) (D : α → List Deferred) (hh : jn K B = some r)
    (hJ : ∀ x wx, R x wx → K (p x) = some r → MX P Z b n (D x) cs k (S x) wx)
    (h : ∀ J : γ → Option O, (∀ x wx σ' ds', Sub σ' (S x) → ds' = D x → R x wx → J (p x) = some r → MX P Z b n ds' cs k σ' wx) → B J = some r → MX P Z b n ds cs (it :: k) σ w) : MX P Z b n ds cs (it :: k) σ w :=
  h K (fun x wx σ' ds' hs hd hR hK => by subst hd; exact (hJ x wx hR hK).sub hs) hh
theorem MX.joinxD {α γ O : Type} {K : γ → Option O} {B : (γ → Option O) → Option O} {r : O} {it : Item} {id : Nat} {k' : List Item} (S : α → List (Nat × Value)) (R : α → World → Prop) (p : α → γ) (D : α → List Deferred) (hx : exitTo id k = some k') (hh : jn K B = some r)
    (hJ : ∀ x wx, R x wx → K (p x) = some r → MX P Z b n (D x) cs k' (S x) wx)
    (h : ∀ J : γ → Option O, (∀ x wx σ' ds', Sub σ' (S x) → ds' = D x → R x wx → J (p x) = some r → MX P Z b n ds' cs k' σ' wx) → B J = some r → MX P Z b n ds cs (it :: k) σ w) : MX P Z b n ds cs (it :: k) σ w :=
  h K (fun x wx σ' ds' hs hd hR hK => by subst hd; exact (hJ x wx hR hK).sub hs) hh
theorem MX.loopD {α γ O : Type} {B : (γ → Option O) → γ → Option O} {N : Nat} {r : O} {c : Code} (S : α → List (Nat × Value)) (R : α → World → Prop) (p : α → γ) (D : α → List Deferred) (x0 : α) (hd : ds = D x0) (hh : loopF B N (p x0) = some r) (hs : Sub σ (S x0)) (hR : R x0 w)
    (round : ∀ (J : γ → Option O) x wx, (∀ x' wx' σ' ds', Sub σ' (S x') → ds' = D x' → R x' wx' → J (p x') = some r → MX P Z b n ds' cs (.inLoop c :: k) σ' wx') → R x wx → B J (p x) = some r → MX P Z b n (D x) cs (.code c :: .inLoop c :: k) (S x) wx) : MX P Z b n ds cs (.code (.loop c) :: k) σ w := by
  subst hd
  have key : ∀ N x wx, R x wx → loopF B N (p x) = some r → MX P Z b n (D x) cs (.code c :: .inLoop c :: k) (S x) wx := by
    intro N
    induction N with
    | zero => intro x wx _ h; cases h
    | succ N ih => intro x wx hx h; exact round (loopF B N) x wx (fun x' wx' σ' ds' hs' hd' hR' hJ => by subst hd'; exact (MX.again1 (ih x' wx' hR' hJ)).sub hs') hx h
  exact MX.loop1 ((key N x0 w hR hh).sub hs)
theorem bl_append (O1 O2 : List Ob) : bl (O1 ++ O2) = bl O1 ++ bl O2 := by unfold bl; rw [List.filterMap_append]
theorem Upd.mid : ∀ (O1 : List Ob) {O2 : List Ob} {o o' : Ob}, Upd (O1 ++ o :: O2) o o' (O1 ++ o' :: O2)
  | [], _, _, _ => .hd
  | _ :: O1, _, _, _ => .tl (Upd.mid O1)
theorem Out.mid : ∀ (O1 : List Ob) {O2 : List Ob} {o : Ob}, Out (O1 ++ o :: O2) o (O1 ++ O2)
  | [], _, _ => .hd
  | _ :: O1, _, _ => .tl (Out.mid O1)
theorem RT.takes {O1 O2 : List Ob} : ∀ {Ds : List Nat} {w : World}, St w0 w (O1 ++ (defs Ds ++ O2)) → (∀ w1, St w0 w1 (O1 ++ O2) → Tr w (O1 ++ (defs Ds ++ O2)) w1 (O1 ++ O2) → RT P Z b n [] cs σ w1) → RT P Z b n (cols Ds) cs σ w
  | [], w, s, h => h w s (Tr.refl _ _)
  | D :: Ds, w, s, h => RT.take s (Upd.mid O1) fun w1 s1 t1 => RT.takes (s1.del (Out.mid O1).del) fun w2 s2 t2 => h w2 s2 ((t1.trans (Tr.del (Out.mid O1).del)).trans t2)
end
/-! ### Calls that hand over objects; orders of a drawn region -/
section
variable {w0 w w1 w9 : World} {O O' : List Ob}
theorem Owns.merge {w : World} {O : List Ob} (h : Owns w O) : ∀ {O' : List Ob}, Owns w O' → (∀ b ∈ bl O', b ∉ bl O) → Owns w (O' ++ O)
  | [], _, _ => h
  | o :: O', ⟨h1, h2, h3⟩, hd => ⟨h1, fun b e hm => by
      have hm : b ∈ bl (O' ++ O) := hm
      rw [bl_append] at hm
      rcases List.mem_append.1 hm with hm | hm
      · exact h2 b e hm
      · exact hd b (mem_bl_cons.2 (.inl e)) hm, Owns.merge h h3 fun b hb => hd b (mem_bl_cons.2 (.inr hb))⟩
theorem St.merge (s : St w0 w O) (s' : St w w1 O') : St w0 w1 (O' ++ O) := ⟨s.ag.trans s'.ag, fun b hb => by
    rw [bl_append] at hb
    rcases List.mem_append.1 hb with hb | hb
    · exact Nat.le_trans s.ag.size (s'.new b hb)
    · exact s.new b hb, Owns.merge (s.ok.keep s'.ag (fun _ _ => by simp)) s'.ok fun b hb hm => by
      have := s'.new b hb; have := s.ok.lt b hm; omega⟩
theorem Tr.merge (_ : St w0 w O) (s' : St w w1 O') : Tr w O w1 (O' ++ O) := ⟨s'.ag.widen, fun b hb => by
    rw [bl_append] at hb
    rcases List.mem_append.1 hb with hb | hb
    · exact .inr (s'.new b hb)
    · exact .inl hb⟩
theorem St.from (s : St w9 w1 O') (h : Agree [] w w9) : St w w1 O' := ⟨h.trans s.ag, fun b hb => Nat.le_trans h.size (s.new b hb), s.ok⟩
end
theorem Calls.gives {P : Program} {f : FuncId} {vs : Array Value} {w : World} {R R' : World → Value → Prop} (h : Calls P f vs w (Gives w R)) (hR : ∀ w' v, R w' v → R' w' v) : Calls P f vs w (Gives w R') := h.mono fun _ w' ⟨v, e, h1, h2⟩ => ⟨v, e, hR w' v h1, h2⟩
def AllL (p : Nat → Prop) : List Nat → Prop
  | [] => True
  | i :: l => p i ∧ AllL p l
theorem AllL.mem {p : Nat → Prop} : ∀ {l : List Nat}, AllL p l → ∀ i ∈ l, p i
  | _ :: _, ⟨h1, h2⟩, i, hi => by
    rcases List.mem_cons.1 hi with rfl | hi
    · exact h1
    · exact AllL.mem h2 i hi
section
variable {P : Program} {Z : Machine → Prop} {b : Frame} {n : Nat} {ds : List Deferred} {cs : List Frame} {k : List Item} {σ τ : List (Nat × Value)} {w w0 : World} {ops : Array Oper} {t f m m' i : Nat} {d : Nat} {ty : TypeId} {ps : String} {af : Array Edge} {g : Option (Nat × Bool)}
theorem RD.each (rs : List Nat) (hr : readyB ops m rs = true) (h : AllL (RO P Z b n ds cs ops t f m k σ w) rs) : RD P Z b n ds cs ops t (f + 1) m k σ w := RD.all hr h.mem
/-- A call in the tail, walked in place. -/
theorem RO.enterT {fn : FuncId} {fun_ : Func} {body : Code} {nn : Nat} {c : Operand} {fst cap : List Value} {xs : List Operand} {vs : List Value} {ts : Array TypeId} (hst : stepB ops.size m i m' = true) (hi : ops[i]? = some ⟨some d, .call { callee := .value c, args := xs.toArray, argTypes := ts }, ty, ps, af, g⟩) (htl : tail t i = true) (hg : Want ops σ g true)
    (hf : bodyB P fn = true) (hfn : P.funcs[fn]? = some fun_) (hb : fun_.body = some body) (hn : fun_.ntmps = nn) (hl : Nat.ble (fst ++ vs ++ cap).length nn = true) (hcal : ev σ c = some (.func (.func fn) fst.toArray cap.toArray)) (hv : evs σ xs vs) (hd : Nat.blt d n = true)
    (h : ∀ Z' cs', RetOK P Z' fn cs' (fun v w1 => RD P Z b n ds cs ops t f m' k ((d, v) :: σ) w1) → MX P Z' (fb fn .normal none) nn [] cs' [.code body] (args 0 (fst ++ vs ++ cap)) w) : RO P Z b n ds cs ops t f m k σ w i := by
  intro a w' ha hw
  unfold OpI
  rw [hi]
  simp only
  rw [if_pos (hg.eq ha)]
  have he := run_call (P := P) (ty := ty) (ps := ps) (af := af) (g := g) (dd := some d) (ts := ts) hf (ρ := a.eval) (ha.ev hcal) (vs := vs.toArray) (xs := xs.toArray) (by rw [List.map_toArray, evs_map (fun x u hx => ha.ev hx) hv]) w'
  unfold OpW
  rw [he, stepB_eq hst]
  simp only [List.append_toArray]
  refine MX.start' hfn hb hn hl (fun Z' cs' hr => h Z' cs' hr) hw fun v w1 w2 hx hag => ⟨v, rfl, ⟨fun h9 => (by rw [htl] at h9; cases h9), hx _ _ (ha.put d v hd) hag⟩⟩
end
end Go.Proofs.YtplkfbljncfdnaaDoor
