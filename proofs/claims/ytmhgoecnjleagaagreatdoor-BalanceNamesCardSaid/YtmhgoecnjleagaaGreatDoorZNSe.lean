/- Plain laws: BalanceSums. No program in sight but the printed functions. -/
import Derived.Test.YtmhgoecnjleagaaGreatDoorZNSd
namespace Go.Proofs.YtmhgoecnjleagaaGreatDoor
open Go
theorem FU_big:(18446744073709551616:Nat) < FU:=by decide
theorem works_ok:wardmotelaw22_works_p FU = some true:=by kernel_rfl
theorem mulb {k x:Int} (h1:0 ≤ k) (h2:k ≤ 8) (h3:0 ≤ x) (h4:x ≤ 2295):0 ≤ k * x∧k * x ≤ 18360:=
  ⟨Int.mul_nonneg h1 h3,by have:=Int.mul_le_mul h2 h4 h3 (by omega:(0:Int) ≤ 8); omega⟩
theorem smq {a b:Int} (h0:b ≠ 0) (ha:a.natAbs < 2147483648) (hb:b.natAbs < 2147483648):SmQ (Rat.divInt a b):=by
  have:=lowest_ok FU a b (by unfold W1; omega) (by unfold W1; omega) h0 FU_big
  unfold SmQ; omega
theorem bof_ok (a b:Int) (h0:b ≠ 0) (ha:a.natAbs < 2147483648) (hb:b.natAbs < 2147483648):balance_of_p FU a b = some (.ok (Sh (Rat.divInt a b))):=by
  unfold balance_of_p
  rw [share_of_ok FU a b (by unfold Sm; omega) (by unfold Sm; omega) h0 FU_big,obind]
  rfl
theorem q_ne {all k:Int} (hk:k ≠ 0) (ha:all ≠ 0):Rat.divInt all k ≠ 0:=fun e=>by
  have e2:Rat.divInt all k = Rat.divInt 0 1:=e
  rw [Rat.divInt_eq_divInt_iff hk (by decide)] at e2
  omega
def offs (all k:Int) (l:List Int):List TShare:=l.map fun x=>Sh (Rat.divInt (x * k - all) all)
end Go.Proofs.YtmhgoecnjleagaaGreatDoor
