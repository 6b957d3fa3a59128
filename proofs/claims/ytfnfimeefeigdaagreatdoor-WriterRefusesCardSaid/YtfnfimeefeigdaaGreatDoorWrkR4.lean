/-
  Part of the proof: fixed runs of a program. No conditions.
-/
import Derived.Test.YtfnfimeefeigdaaGreatDoorWrkD
noncomputable section
set_option maxRecDepth 1000000
namespace Go.AB
open Go.Proofs
theorem xh:k9 fV 16 32075 lQ=some (.bool true):=by kernel_rfl
end Go.AB
