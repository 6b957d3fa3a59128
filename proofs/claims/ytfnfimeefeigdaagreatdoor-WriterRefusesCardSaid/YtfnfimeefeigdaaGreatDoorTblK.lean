/-
  Part of the proof: fixed runs of a program. No conditions.
-/
import Derived.Test.YtfnfimeefeigdaaGreatDoorTblR1
import Derived.Test.YtfnfimeefeigdaaGreatDoorTblR2
import Derived.Test.YtfnfimeefeigdaaGreatDoorTblR3
noncomputable section
set_option maxRecDepth 1000000
namespace Go.AB
open Go.Proofs
theorem np:GO pG rA iC:=
 GO.trans (GO.L0 wb) (GO.trans (GO.L0 wO) ((GO.L0 yY)))
theorem WT:Il Tryz.prog M0 SC:=
 OD vR (k:=SC) (n:=25) (N:=11) (by kernel_rfl) np (H1:=iC.H) (by kernel_rfl)
end Go.AB
