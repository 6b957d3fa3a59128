/-
  Part of the proof: fixed runs of a program. No conditions.
-/
import Derived.Test.YtfnfimeefeigdaaGreatDoorWrkD
noncomputable section
set_option maxRecDepth 1000000
namespace Go.AB
open Go.Proofs
theorem xa:L0 fV 32303 [0,1,15,16,19,22,25,28,31,34,36,37,38,39,40,41,42,43,44,45,46,47,48,49,50,63,254,465,468,807,849,1073,1092,1095,1100,1101,1102,1103,1104,1107,1166] qt=some qj:=by kernel_rfl
end Go.AB
