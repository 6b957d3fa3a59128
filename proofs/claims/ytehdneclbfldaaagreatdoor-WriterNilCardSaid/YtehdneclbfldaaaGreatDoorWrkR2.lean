/-
  Part of the proof: the machine that runs a program by fixed orders, and that each of its runs is a run of the model; or a run of it in parts. No conditions.
-/
import Derived.Test.YtehdneclbfldaaaGreatDoorWrkD
set_option maxRecDepth 1000000
namespace Go.Ideal
open Go.Proofs

theorem wrkg5 : runG wrkX 6000 [1, 2, 16, 17, 20, 23, 26, 29, 32, 35, 37, 38, 39, 40, 41, 42, 43, 44, 45, 46, 47, 48, 49, 50, 51, 64, 255, 449, 466, 469, 473, 474, 475, 476, 477, 480, 481, 488, 489, 519, 520] wrkc4 = some wrkc5 := by kernel_rfl

theorem wrkg6 : runG wrkX 7047 [1, 2, 16, 17, 20, 23, 26, 29, 32, 35, 37, 38, 39, 40, 41, 42, 43, 44, 45, 46, 47, 48, 49, 50, 51, 64, 255, 449, 466, 469, 473, 474, 475, 476, 602, 603, 604, 605, 606, 607, 608, 609, 610, 611, 612, 613, 614, 615] wrkc5 = some wrkc6 := by kernel_rfl

theorem wrkg7 : runG wrkX 6000 [1, 2, 16, 17, 20, 23, 26, 29, 32, 35, 37, 38, 39, 40, 41, 42, 43, 44, 45, 46, 47, 48, 49, 50, 51, 64, 255, 449, 466, 469, 473, 474, 475, 476, 602, 603, 604, 605, 606, 607, 608, 609, 610, 611, 612, 613, 614, 615, 661, 662, 663, 664, 676, 678, 737, 739, 746, 747, 769] wrkc6 = some wrkc7 := by kernel_rfl

theorem wrkg8 : runG wrkX 6022 [1, 2, 16, 17, 20, 23, 26, 29, 32, 35, 37, 38, 39, 40, 41, 42, 43, 44, 45, 46, 47, 48, 49, 50, 51, 64, 255, 466, 469, 473, 474, 475, 476, 602, 603, 604, 605, 606, 607, 608, 609, 610, 611, 612, 613, 614, 615, 661, 808, 821, 822, 831, 832, 833, 838, 839, 840, 841, 846, 847] wrkc7 = some wrkc8 := by kernel_rfl

end Go.Ideal
