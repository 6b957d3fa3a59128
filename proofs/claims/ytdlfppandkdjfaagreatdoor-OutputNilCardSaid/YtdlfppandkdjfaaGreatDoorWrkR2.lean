/-
  Part of the proof: the machine that runs a program by fixed orders, and that each of its runs is a run of the model; or a run of it in parts. No conditions.
-/
import Derived.Test.YtdlfppandkdjfaaGreatDoorWrkD
set_option maxRecDepth 1000000
namespace Go.Ideal
open Go.Proofs

theorem wrkg5 : runG wrkX 5000 [0, 1, 15, 16, 19, 22, 25, 28, 31, 34, 36, 37, 38, 39, 40, 41, 42, 43, 44, 45, 46, 47, 48, 207, 213, 339, 345, 354, 371, 374, 378, 379, 380, 381, 382, 383, 384, 385, 386, 400, 401, 402, 403, 404, 405, 413, 414, 415, 420, 423, 424, 425, 429, 430] wrkc4 = some wrkc5 := by kernel_rfl

theorem wrkg6 : runG wrkX 5000 [0, 1, 15, 16, 19, 22, 25, 28, 31, 34, 36, 37, 38, 39, 40, 41, 42, 43, 44, 45, 46, 47, 48, 213, 339, 345, 354, 371, 374, 378, 379, 380, 431, 452, 460, 502] wrkc5 = some wrkc6 := by kernel_rfl

theorem wrkg7 : runG wrkX 5000 [0, 1, 15, 16, 19, 22, 25, 28, 31, 34, 36, 37, 38, 39, 40, 41, 42, 43, 44, 45, 46, 47, 48, 213, 339, 345, 354, 371, 374, 378, 379, 380, 452, 460, 517, 518, 519, 520, 521, 522, 540, 541, 542, 543, 544, 545, 553, 554, 555, 560, 571, 572, 573, 574, 575] wrkc6 = some wrkc7 := by kernel_rfl

theorem wrkg8 : runG wrkX 5000 [0, 1, 15, 16, 19, 22, 25, 28, 31, 34, 36, 37, 38, 39, 40, 41, 42, 43, 44, 45, 46, 47, 48, 213, 339, 345, 354, 371, 378, 379, 380, 460, 571, 593, 601, 605, 606, 607, 619, 621, 622, 629, 630, 660, 661] wrkc7 = some wrkc8 := by kernel_rfl

end Go.Ideal
