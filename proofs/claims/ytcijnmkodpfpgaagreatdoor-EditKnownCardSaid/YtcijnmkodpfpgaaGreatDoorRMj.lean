/- Laws of the walk, more of them: fields and elements of values, small integers, elements of the call's own rows, functions without a body. No program in sight. -/
import Derived.Test.YtcijnmkodpfpgaaGreatDoorRMp
namespace Go.Proofs.YtcijnmkodpfpgaaGreatDoor
open Go Go.RowKit
instance : Rep Int16 := Rep.plain (fun x => .int .i16 x.toInt) (fun _ => rfl)
def sidx (s : ByteArray) (i : Int) : Option UInt8 := if 0 ≤ i then s.data[i.toNat]? else none
theorem sidx_in {s : ByteArray} {i : Int} {z : UInt8} (h : sidx s i = some z) : i = (i.toNat : Int) ∧ s.data[i.toNat]? = some z := by
  unfold sidx at h
  split at h
  · exact ⟨by omega, h⟩
  · cases h
theorem arr_get0 {α : Type} (f : α → Value) {xs : List α} {i : Nat} {x : α} (h : xs[i]? = some x) : (xs.map f)[i * 1]? = some (f x) := by rw [Nat.mul_one, List.getElem?_map, h]; rfl
section
variable {P : Program} {σ : List (Nat × Value)} {w w0 : World} {x y z : Operand} {d : Option Tmp} {t t' s ty e : TypeId} {ps : String} {af : Array Edge} {g : Option (Nat × Bool)} {O O' : List Ob} {v : Value}
def arrT (P : Program) (t : Nat) : TypeId := match P.underlying t with
  | some (.array _ e) => e
  | _ => 0
def arrL (P : Program) (t : Nat) : Nat := match P.underlying t with
  | some (.array n _) => n
  | _ => 0
def idxB (P : Program) (t m : Nat) (q : Bool) : Bool := match P.underlying t with
  | some (.array _ e) => P.cellsOf e == m && (P.underlying e).isSome && aggQ P e == q
  | _ => false
theorem run_indexA {m k : Nat} {q : Bool} {cs : Array Value} (h : idxB P t m q = true) {kd : IntKind} (hk : k < arrL P t) (w' : World) : (Instr.index t (.agg cs) (.int kd (k : Int))).run P w' = (part (arrT P t) cs (k * m)).run P w' ∧ P.cellsOf (arrT P t) = m ∧ aggQ P (arrT P t) = q ∧ ∃ u, P.underlying (arrT P t) = some u := by
  unfold idxB at h
  unfold arrT arrL at *
  split at h
  · rename_i n e hu
    simp only [hu] at hk ⊢
    rw [Bool.and_eq_true, Bool.and_eq_true] at h
    have h1 : P.cellsOf e = m := by simpa using h.1.1
    have h3 : aggQ P e = q := by simpa using h.2
    obtain ⟨u, hu2⟩ := Option.isSome_iff_exists.1 h.1.2
    obtain ⟨i, hi⟩ := info_of_underlying hu2
    refine ⟨?_, h1, h3, u, hu2⟩
    have hlt : (0 : Int) ≤ (k : Int) ∧ (k : Int) < (n : Int) := by omega
    simp [Instr.index, asIntOf, Sem.run_bind, run_underlying hu, hk, run_sizeOf w' hi, h1]
  · cases h
theorem FV.idx1 {m len k : Nat} {kd : IntKind} {i : Int} {cs : List Value} (h : idxB P t m false = true) (hl : arrL P t = len) (hx : ev σ x = some (.agg cs.toArray)) (hy : ev σ y = some (.int kd i)) (hi : i = (k : Int)) (hk : k < len) (hv : cs[k * m]? = some v) : FV P ⟨d, .index t x y, ty, ps, af, g⟩ σ w v := fun ρ ha w' _ => by
  subst hi
  obtain ⟨h3, h4, h2, u, hu⟩ := run_indexA (cs := cs.toArray) (kd := kd) h (by rw [hl]; exact hk) w'
  have hagg : (isAgg (arrT P t)).run P w' = .ok false w' := by
    unfold aggQ at h2
    unfold isAgg
    rw [hu] at h2; rw [Sem.run_bind, run_underlying hu w']; cases u <;> simp_all
  simp only [execOp, ha _ _ hx, ha _ _ hy, Sem.run_bind, h3]
  simp [part, hagg, hv]
theorem FV.idxN {m len k : Nat} {kd : IntKind} {i : Int} {cs ds : List Value} (h : idxB P t m true = true) (hl : arrL P t = len) (hx : ev σ x = some (.agg cs.toArray)) (hy : ev σ y = some (.int kd i)) (hi : i = (k : Int)) (hk : k < len) (hv : (cs.drop (k * m)).take m = ds) : FV P ⟨d, .index t x y, ty, ps, af, g⟩ σ w (.agg ds.toArray) := fun ρ ha w' _ => by
  subst hi
  obtain ⟨h3, h4, h2, u, hu⟩ := run_indexA (cs := cs.toArray) (kd := kd) h (by rw [hl]; exact hk) w'
  obtain ⟨i, hi⟩ := info_of_underlying hu
  have hagg : (isAgg (arrT P t)).run P w' = .ok true w' := by
    unfold aggQ at h2
    unfold isAgg
    rw [hu] at h2; rw [Sem.run_bind, run_underlying hu w']; cases u <;> simp_all
  have hcs : cs.toArray.extract (k * m) (k * m + m) = ds.toArray := by
    apply Array.ext'
    rw [← hv]
    simp
  simp only [execOp, ha _ _ hx, ha _ _ hy, Sem.run_bind, h3]
  simp only [part, Sem.run_bind, hagg, Result.andThen_ok, if_true, run_sizeOf w' hi, h4, Sem.run_pure, hcs]
/-! ### Functions without a body -/
end
/-! ### Elements of the call's own rows -/
section
variable {α : Type} [Rep α] {P : Program} {σ : List (Nat × Value)} {w w0 : World} {x y : Operand} {t ty : TypeId} {ps : String} {af : Array Edge} {g : Option (Nat × Bool)} {O O' : List Ob} {v : Value} {base : Nat} {e : TypeId} {cs : List Value} {xs ys : List α} {L : List Nat} {dd : Option Tmp}
end
end Go.Proofs.YtcijnmkodpfpgaaGreatDoor
