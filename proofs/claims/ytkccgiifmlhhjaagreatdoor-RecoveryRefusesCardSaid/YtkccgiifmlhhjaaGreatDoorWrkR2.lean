/-
  Part of the proof: the machine that runs a program by fixed orders, and that each of its runs is a run of the model; or a run of it in parts. No conditions.
-/
import Derived.Test.YtkccgiifmlhhjaaGreatDoorWrkD
noncomputable section
set_option maxRecDepth 1000000
namespace Go.AD
open Go.Proofs
theorem v8:MM mr 27000 [0,10,15,16,19,22,25,28,31,33,34,35,430,581,584,585,586,730,741,820,823,827,853,854,855,856,868,869,870,871,872,873,874,875,876,883,884,885,886,887,888,889,890,921,930,931,956,957] qA=some pc:=by kernel_rfl
end Go.AD
