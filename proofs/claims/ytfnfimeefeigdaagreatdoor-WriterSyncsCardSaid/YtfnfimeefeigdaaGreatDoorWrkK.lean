/-
  Part of the proof: the machine that runs a program by fixed orders, and that each of its runs is a run of the model; or a run of it in parts. No conditions.
-/
import Derived.Test.YtfnfimeefeigdaaGreatDoorWrkR1
import Derived.Test.YtfnfimeefeigdaaGreatDoorWrkR2
import Derived.Test.YtfnfimeefeigdaaGreatDoorWrkR3
import Derived.Test.YtfnfimeefeigdaaGreatDoorWrkR4
import Derived.Test.YtfnfimeefeigdaaGreatDoorWrkR5
noncomputable section
set_option maxRecDepth 1000000
namespace Go.AD
open Go.Proofs
theorem oJ:HQ mr qV mn:=
 HQ.trans (HQ.MM wk) (HQ.trans (HQ.MM v8) (HQ.trans (HQ.MM xC) (HQ.trans (HQ.MM zV) ((HQ.MM zM)))))
theorem gp:K0 Tryz.prog PZ oP:=
 Sp tH (k:=oP) (n:=136) (N:=11) (by kernel_rfl) oJ (H1:=mn.H) (by kernel_rfl)
end Go.AD
