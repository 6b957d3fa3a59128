/-
  Part of the proof: fixed runs of a program. No conditions.
-/
import Derived.Test.YtfnfimeefeigdaaGreatDoorWrkR1
import Derived.Test.YtfnfimeefeigdaaGreatDoorWrkR2
import Derived.Test.YtfnfimeefeigdaaGreatDoorWrkR3
import Derived.Test.YtfnfimeefeigdaaGreatDoorWrkR4
noncomputable section
set_option maxRecDepth 1000000
namespace Go.AB
open Go.Proofs
theorem mK:GO fV q9 lQ:=
 GO.trans (GO.L0 wt) (GO.trans (GO.L0 xa) ((GO.L0 wm)))
theorem jW:Il Tryz.prog PI mh:=
 cK uD (k:=mh) (n:=136) (N:=11) (by kernel_rfl) mK xh
end Go.AB
