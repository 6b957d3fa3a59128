/-
  Part of the proof: the machine that runs a program by fixed orders, and that each of its runs is a run of the model; or a run of it in parts. No conditions.
-/
import Derived.Test.YtdlfppandkdjfaaGreatDoorWrkD
set_option maxRecDepth 1000000
namespace Go.Ideal
open Go.Proofs

theorem wrkg1 : runG wrkX 5000 [0, 1, 15, 16, 19, 22, 25, 28, 31, 34, 36, 37, 38, 39, 40, 41, 42, 43, 44, 45, 46, 47, 48, 49, 50, 53, 54, 61, 62, 92, 93] wrkc0 = some wrkc1 := by kernel_rfl

theorem wrkg2 : runG wrkX 5000 [0, 1, 15, 16, 19, 22, 25, 28, 31, 34, 36, 37, 38, 39, 40, 41, 42, 43, 44, 45, 46, 47, 48, 49, 175, 181, 190, 191, 192, 193, 194] wrkc1 = some wrkc2 := by kernel_rfl

theorem wrkg3 : runG wrkX 5000 [0, 1, 15, 16, 19, 22, 25, 28, 31, 34, 36, 37, 38, 39, 40, 41, 42, 43, 44, 45, 46, 47, 48, 175, 181, 190, 204, 207, 210, 211, 212, 213, 214, 217, 278, 280, 287, 288, 289] wrkc2 = some wrkc3 := by kernel_rfl

theorem wrkg4 : runG wrkX 5000 [0, 1, 15, 16, 19, 22, 25, 28, 31, 34, 36, 37, 38, 39, 40, 41, 42, 43, 44, 45, 46, 47, 48, 207, 211, 212, 213, 339, 345, 354, 355, 356, 361, 362, 363, 370, 371, 373, 374, 378] wrkc3 = some wrkc4 := by kernel_rfl

end Go.Ideal
