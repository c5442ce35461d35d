/- EditKnown: the kernel computes what the printed function gives. -/
import Derived.Test.YtcijnmkodpfpgaaGreatDoorRKp
import Derived.Test.YtcijnmkodpfpgaaGreatDoorRKq
import Derived.Test.YtcijnmkodpfpgaaGreatDoorRKr
import Derived.Test.YtcijnmkodpfpgaaGreatDoorRKs
import Derived.Test.YtcijnmkodpfpgaaGreatDoorRKt
namespace Go.Proofs.YtcijnmkodpfpgaaGreatDoor
open Go Go.RowKit
theorem allr (n : Nat) : loopF LB (n + 200) (St9 0) = loopF LB n (St9 100) := by
  rw [lp2, k0, lp2, k1, lp2, k2, lp2, k3, lp2, k4, lp2, k5, lp2, k6, lp2, k7, lp2, k8, lp2, k9, lp2, k10, lp2, k11, lp2, k12, lp2, k13, lp2, k14, lp2, k15, lp2, k16, lp2, k17, lp2, k18, lp2, k19, lp2, k20, lp2, k21, lp2, k22, lp2, k23, lp2, k24, lp2, k25, lp2, k26, lp2, k27, lp2, k28, lp2, k29, lp2, k30, lp2, k31, lp2, k32, lp2, k33, lp2, k34, lp2, k35, lp2, k36, lp2, k37, lp2, k38, lp2, k39, lp2, k40, lp2, k41, lp2, k42, lp2, k43, lp2, k44, lp2, k45, lp2, k46, lp2, k47, lp2, k48, lp2, k49, lp2, k50, lp2, k51, lp2, k52, lp2, k53, lp2, k54, lp2, k55, lp2, k56, lp2, k57, lp2, k58, lp2, k59, lp2, k60, lp2, k61, lp2, k62, lp2, k63, lp2, k64, lp2, k65, lp2, k66, lp2, k67, lp2, k68, lp2, k69, lp2, k70, lp2, k71, lp2, k72, lp2, k73, lp2, k74, lp2, k75, lp2, k76, lp2, k77, lp2, k78, lp2, k79, lp2, k80, lp2, k81, lp2, k82, lp2, k83, lp2, k84, lp2, k85, lp2, k86, lp2, k87, lp2, k88, lp2, k89, lp2, k90, lp2, k91, lp2, k92, lp2, k93, lp2, k94, lp2, k95, lp2, k96, lp2, k97, lp2, k98, lp2, k99]
theorem editKnown_true : wardmotelaw26_EditKnown_p 3000 = some true := by
  unfold wardmotelaw26_EditKnown_p
  rw [kw, Option.bind_some, if_pos rfl, kex, Option.bind_some, kst, Option.bind_some]
  refine (congrArg (fun o => Option.bind o _) (((allr 2800).trans lend :) : loopF LB 3000 (St9 0) = _)).trans ?_
  kernel_rfl
theorem editKnown_ex : ∃ n, wardmotelaw26_EditKnown_p n = some true := ⟨3000, editKnown_true⟩
end Go.Proofs.YtcijnmkodpfpgaaGreatDoor
