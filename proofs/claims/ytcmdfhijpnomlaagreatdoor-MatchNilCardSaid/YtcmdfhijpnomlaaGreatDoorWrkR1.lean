/-
  Part of the proof: the machine that runs a program by fixed orders, and that each of its runs is a run of the model; or a run of it in parts. No conditions.
-/
import Derived.Test.YtcmdfhijpnomlaaGreatDoorWrkD3
set_option maxRecDepth 1000000
namespace Go.Ideal
open Go.Proofs

theorem wrkg1 : runG wrkX 15000 [0, 1, 2, 4, 5, 6, 21, 27, 28, 29, 30, 31, 32, 33, 45, 46, 58, 59, 60, 61, 66, 67, 70, 73, 76, 79, 82, 85, 88, 90, 91, 92, 93, 270, 275, 276, 289, 302, 303, 304, 305, 319, 320] wrkc0 = some wrkc1 := by kernel_rfl

theorem wrkg2 : runG wrkX 15000 [0, 1, 2, 4, 5, 6, 21, 27, 28, 29, 30, 31, 59, 60, 66, 67, 70, 73, 76, 79, 82, 85, 88, 90, 91, 92, 270, 436, 441, 442, 443, 444, 445, 446, 447, 448, 449, 462, 463, 464, 465, 481, 482, 483, 484, 485, 486, 487, 488, 489, 490, 491, 492, 493, 494, 495, 512, 513, 514, 515, 516, 517, 592] wrkc1 = some wrkc2 := by kernel_rfl

theorem wrkg3 : runG wrkX 15000 [0, 1, 2, 4, 5, 6, 21, 27, 28, 29, 30, 31, 59, 60, 66, 67, 70, 73, 76, 79, 82, 85, 88, 90, 91, 92, 270, 436, 441, 442, 443, 444, 445, 446, 447, 448, 449, 462, 463, 464, 465, 481, 482, 483, 484, 485, 486, 487, 488, 489, 490, 491, 782, 796, 799, 802, 804, 805, 806, 807, 808, 810, 813, 816, 819, 820, 821] wrkc2 = some wrkc3 := by kernel_rfl

end Go.Ideal
