/- Plain laws: loops, lists, words. No program in sight but the printed functions. -/
import Derived.Test.YtfncplndfpgngaaGreatDoorTF7
namespace Go.Proofs.YtfncplndfpgngaaGreatDoor
open Go
theorem obind {α β:Type} (x:α) (f:α → Option β):(some x).bind f = f x:=Eq.trans (Eq.refl _) (Eq.refl _)
theorem loopF_succ {α β:Type} (B:(α → Option β) → α → Option β) (n:Nat) (s:α):loopF B (n + 1) s = B (loopF B n) s:=rfl
theorem loop_ok {α β:Type} {B:(α → Option β) → α → Option β} (m:α → Nat) (I:α → Prop) (Q:β → Prop)
    (step:∀ s J,I s → (∀ s', I s' → m s' < m s → ∃ r,J s' = some r∧Q r) → ∃ r,B J s = some r∧Q r):∀ n s,I s → m s < n → ∃ r,loopF B n s = some r∧Q r:=by
  intro n
  induction n with
  | zero=>intro s _ h; omega
  | succ n ih=>intro s hI h; exact step s (loopF B n) hI fun s' h1 h2=>ih s' h1 (by omega)
theorem chkI {x:Int} (h1:-9223372036854775808 ≤ x) (h2:x ≤ 9223372036854775807):chk x = some x:=if_pos ⟨h1,h2⟩
theorem idx_ok {α:Type} {xs:List α} {i:Int} (h0:0 ≤ i) (h:i.toNat < xs.length):idx xs i = some xs[i.toNat]:=by unfold idx; rw [if_pos h0,List.getElem?_eq_getElem h]
theorem put_ok {α:Type} {xs:List α} {i:Nat} (x:α) (h:i < xs.length):put xs (i:Int) x = some (xs.set i x):=by
  unfold put; rw [if_pos ⟨Int.natCast_nonneg _,by omega⟩]; rfl
theorem mk_ok {α:Type} (n:Nat) (x:α) (h:n ≤ 4294967296):mk (n:Int) x = some (List.replicate n x):=by
  unfold mk; rw [if_pos ⟨Int.natCast_nonneg _,by omega⟩]; rfl
end Go.Proofs.YtfncplndfpgngaaGreatDoor
