/-
  Part of the proof: the machine that runs a program by fixed orders, and that each of its runs is a run of the model; or a run of it in parts. No conditions.
-/
import Derived.Test.YtkccgiifmlhhjaaGreatDoorWrkR1
import Derived.Test.YtkccgiifmlhhjaaGreatDoorWrkR2
import Derived.Test.YtkccgiifmlhhjaaGreatDoorWrkR3
noncomputable section
set_option maxRecDepth 1000000
namespace Go.AD
open Go.Proofs
theorem oJ:HQ mr qV j9:=
 HQ.trans (HQ.MM wk) (HQ.trans (HQ.MM v8) ((HQ.MM xC)))
theorem gp:K0 Tryz.prog PZ oP:=
 Sp tH (k:=oP) (n:=95) (N:=10) (by kernel_rfl) oJ (H1:=j9.H) (by kernel_rfl)
end Go.AD
