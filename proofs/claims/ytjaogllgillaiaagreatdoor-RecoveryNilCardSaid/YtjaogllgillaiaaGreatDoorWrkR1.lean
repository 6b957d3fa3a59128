/-
  Part of the proof: the machine that runs a program by fixed orders, and that each of its runs is a run of the model; or a run of it in parts. No conditions.
-/
import Derived.Test.YtjaogllgillaiaaGreatDoorWrkD
set_option maxRecDepth 1000000
namespace Go.Ideal
open Go.Proofs

theorem wrkg1 : runG wrkX 6000 [0, 10, 15, 16, 19, 22, 25, 28, 31, 33, 34, 35, 36, 37, 38, 41, 101, 103, 110, 111, 133, 134, 140, 141] wrkc0 = some wrkc1 := by kernel_rfl

theorem wrkg2 : runG wrkX 6000 [0, 10, 15, 16, 19, 22, 25, 28, 31, 33, 34, 35, 36, 163, 164, 165, 166, 169, 229, 231, 238, 239, 261, 262, 266, 267] wrkc1 = some wrkc2 := by kernel_rfl

theorem wrkg3 : runG wrkX 6000 [0, 10, 15, 16, 19, 22, 25, 28, 31, 33, 34, 35, 36, 163, 164, 290, 291, 292, 293, 296, 356, 358, 365, 366, 388, 389, 395, 396] wrkc2 = some wrkc3 := by kernel_rfl

theorem wrkg4 : runG wrkX 6000 [0, 10, 15, 16, 19, 22, 25, 28, 31, 33, 34, 35, 36, 163, 164, 418, 427, 432, 433, 434, 437, 498, 500, 507, 508, 518] wrkc3 = some wrkc4 := by kernel_rfl

theorem wrkg5 : runG wrkX 6000 [0, 10, 15, 16, 19, 22, 25, 28, 31, 33, 34, 35, 427, 578, 579, 580, 581, 582, 583, 584, 585, 586, 587, 594, 595, 596, 597, 598, 599, 600, 601, 602, 603, 604, 618, 619, 620, 621, 622, 623, 625] wrkc4 = some wrkc5 := by kernel_rfl

end Go.Ideal
