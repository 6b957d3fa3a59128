/-
  Part of the proof: the machine that runs a program by fixed orders, and that each of its runs is a run of the model; or a run of it in parts. No conditions.
-/
import Derived.Test.YtfgamdmnljnonaaGreatDoorWrkD
set_option maxRecDepth 1000000
namespace Go.Ideal
open Go.Proofs

theorem wrkg1 : runG wrkX 13000 [1, 2, 3, 4, 5, 6, 11, 20, 22, 23, 35, 36, 48, 49, 50, 51, 56, 57, 60, 63, 66, 69, 72, 75, 78, 80, 81, 82, 83, 99, 100, 234, 246, 247, 260, 261, 262, 264] wrkc0 = some wrkc1 := by kernel_rfl

theorem wrkg2 : runG wrkX 13000 [1, 2, 3, 4, 5, 6, 11, 20, 22, 23, 49, 50, 56, 57, 60, 63, 66, 69, 72, 75, 78, 80, 81, 82, 260, 426, 431, 432, 433, 434, 435, 436, 437, 438, 439, 452, 453, 454, 455, 456, 457, 458, 459, 460, 477, 478, 479, 480, 481, 482, 483] wrkc1 = some wrkc2 := by kernel_rfl

theorem wrkg3 : runG wrkX 13000 [1, 2, 3, 4, 5, 6, 11, 20, 22, 23, 49, 50, 56, 57, 60, 63, 66, 69, 72, 75, 78, 80, 81, 82, 260, 426, 431, 432, 433, 434, 435, 436, 437, 438, 439, 452, 453, 454, 455, 456, 457, 458, 459, 460, 477, 478, 479, 480, 481, 482, 574, 575, 576, 702, 703, 704, 705, 706, 707, 708, 709, 710, 711, 712, 713, 714, 715, 727, 728] wrkc2 = some wrkc3 := by kernel_rfl

end Go.Ideal
