/-
  Part of the proof: fixed runs of a program. No conditions.
-/
import Derived.Test.YtfnfimeefeigdaaGreatDoorTblD
noncomputable section
set_option maxRecDepth 1000000
namespace Go.AB
open Go.Proofs
theorem yY:L0 pG 22124 [0,1,11,12] rG=some iC:=by kernel_rfl
end Go.AB
