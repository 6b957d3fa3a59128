/-
  Part of the proof: the machine that runs a program by fixed orders, and that each of its runs is a run of the model; or a run of it in parts. No conditions.
-/
import Derived.Test.YtkccgiifmlhhjaaGreatDoorWrkD
noncomputable section
set_option maxRecDepth 1000000
namespace Go.AD
open Go.Proofs
theorem xC:MM mr 25272 [0,10,15,16,19,22,25,28,31,33,34,35,430,581,584,585,586,730,741,820,823,827,870,871,872,1016,1027,1106,1109,1113,1116,1117,1118,1119,1120,1121,1183,1184] pc=some j9:=by kernel_rfl
end Go.AD
