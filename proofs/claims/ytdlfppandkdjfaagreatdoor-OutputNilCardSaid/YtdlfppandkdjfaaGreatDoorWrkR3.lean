/-
  Part of the proof: the machine that runs a program by fixed orders, and that each of its runs is a run of the model; or a run of it in parts. No conditions.
-/
import Derived.Test.YtdlfppandkdjfaaGreatDoorWrkD
set_option maxRecDepth 1000000
namespace Go.Ideal
open Go.Proofs

theorem wrkg9 : runG wrkX 5000 [0, 1, 15, 16, 19, 22, 25, 28, 31, 34, 36, 37, 38, 39, 40, 41, 42, 43, 44, 45, 46, 47, 48, 213, 339, 345, 371, 378, 379, 380, 460, 571, 593, 601, 605, 606, 607, 740, 741, 742, 751, 756] wrkc8 = some wrkc9 := by kernel_rfl

theorem wrkg10 : runG wrkX 5000 [0, 1, 15, 16, 19, 22, 25, 28, 31, 34, 36, 37, 38, 39, 40, 41, 42, 43, 44, 45, 46, 47, 48, 213, 339, 345, 371, 378, 379, 380, 460, 571, 593, 601, 751, 763, 764, 765, 777, 779, 780, 787, 788, 810] wrkc9 = some wrkc10 := by kernel_rfl

theorem wrkg11 : runG wrkX 5000 [0, 1, 15, 16, 19, 22, 25, 28, 31, 34, 36, 37, 38, 39, 40, 41, 42, 43, 44, 45, 46, 47, 48, 213, 339, 345, 371, 378, 379, 380, 460, 593, 601, 751, 763, 764, 765, 898, 899, 900, 909, 910, 911, 913] wrkc10 = some wrkc11 := by kernel_rfl

theorem wrkg12 : runG wrkX 2215 [0, 1, 15, 16, 19, 22, 25, 28, 31, 34, 36, 37, 38, 39, 40, 41, 42, 43, 44, 45, 46, 47, 48, 213, 339, 345, 371, 378, 379, 380, 460, 593, 601, 751, 909, 915] wrkc11 = some wrkc12 := by kernel_rfl

end Go.Ideal
