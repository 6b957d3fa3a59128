/-
  Part of the proof: the machine that runs a program by fixed orders, and that each of its runs is a run of the model; or a run of it in parts. No conditions.
-/
import Derived.Test.YtehdneclbfldaaaGreatDoorWrkD
set_option maxRecDepth 1000000
namespace Go.Ideal
open Go.Proofs

theorem wrkg21 : runG wrkX 5442 [1, 2, 16, 17, 20, 23, 26, 29, 32, 35, 37, 38, 39, 40, 41, 42, 43, 44, 45, 46, 47, 48, 49, 50, 51, 64, 255, 466, 469, 808, 850, 1093, 1096, 1466, 1510, 1767, 1786, 1789, 1794] wrkc20 = some wrkc21 := by kernel_rfl

end Go.Ideal
