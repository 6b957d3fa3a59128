/-
  Part of the proof: the machine that runs a program by fixed orders, and that each of its runs is a run of the model; or a run of it in parts. No conditions.
-/
import Derived.Test.YtkccgiifmlhhjaaGreatDoorWrkD
noncomputable section
set_option maxRecDepth 1000000
namespace Go.AD
open Go.Proofs
theorem wk:MM mr 27000 [0,10,15,16,19,22,25,28,31,33,34,35,36,164,165,421,430,435,563,572,573,574,575,579,580] qV=some qA:=by kernel_rfl
end Go.AD
