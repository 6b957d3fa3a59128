/-
  Part of the proof: fixed runs of a program. No conditions.
-/
import Derived.Test.YtfnfimeefeigdaaGreatDoorTblD
noncomputable section
set_option maxRecDepth 1000000
namespace Go.AB
open Go.Proofs
theorem wO:L0 pG 23000 [0,1,11,12] rU=some rG:=by kernel_rfl
end Go.AB
