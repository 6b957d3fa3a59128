/-
  Part of the proof: the machine that runs a program by fixed orders, and that each of its runs is a run of the model; or a run of it in parts. No conditions.
-/
import Derived.Test.YtehdneclbfldaaaGreatDoorWrkD
set_option maxRecDepth 1000000
namespace Go.Ideal
open Go.Proofs

theorem wrkg1 : runG wrkX 6000 [1, 2, 16, 17, 20, 23, 26, 29, 32, 35, 37, 38, 39, 40, 41, 42, 43, 44, 45, 46, 47, 48, 49, 50, 51, 64, 65, 66, 67, 68, 71, 72, 79, 80, 110, 111, 112] wrkc0 = some wrkc1 := by kernel_rfl

theorem wrkg2 : runG wrkX 6000 [1, 2, 16, 17, 20, 23, 26, 29, 32, 35, 37, 38, 39, 40, 41, 42, 43, 44, 45, 46, 47, 48, 49, 50, 51, 64, 65, 66, 67, 193, 194, 195, 196, 197, 198, 199, 200, 201, 202, 203, 204, 205, 206, 220] wrkc1 = some wrkc2 := by kernel_rfl

theorem wrkg3 : runG wrkX 6000 [1, 2, 16, 17, 20, 23, 26, 29, 32, 35, 37, 38, 39, 40, 41, 42, 43, 44, 45, 46, 47, 48, 49, 50, 51, 64, 238, 252, 255, 258, 259, 260, 261, 262, 265, 266, 273, 274, 304, 305, 311, 312] wrkc2 = some wrkc3 := by kernel_rfl

theorem wrkg4 : runG wrkX 6049 [1, 2, 16, 17, 20, 23, 26, 29, 32, 35, 37, 38, 39, 40, 41, 42, 43, 44, 45, 46, 47, 48, 49, 50, 51, 64, 238, 252, 255, 258, 259, 260, 261, 387, 388, 389, 390, 391, 392, 393, 394, 395, 396, 397, 398, 399, 400] wrkc3 = some wrkc4 := by kernel_rfl

end Go.Ideal
