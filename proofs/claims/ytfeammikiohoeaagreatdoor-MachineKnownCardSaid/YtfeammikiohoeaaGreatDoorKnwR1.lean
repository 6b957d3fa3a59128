/-
  Part of the proof: the machine that runs a program by fixed orders, and that each of its runs is a run of the model; or a run of it in parts. No conditions.
-/
import Derived.Test.YtfeammikiohoeaaGreatDoorKnwD2
set_option maxRecDepth 1000000
namespace Go.Ideal
open Go.Proofs

theorem knwg1 : runG knwX 10000 [0, 1, 2, 4, 5, 21, 22, 34, 35, 36, 37, 42, 43, 46, 49, 52, 55, 58, 61, 64, 66, 67, 68, 69, 85, 86, 99, 112, 113, 114, 220, 221] knwc0 = some knwc1 := by kernel_rfl

theorem knwg2 : runG knwX 10000 [0, 1, 2, 4, 5, 21, 22, 34, 35, 36, 37, 42, 43, 46, 49, 52, 55, 58, 61, 64, 66, 67, 68, 69, 246, 251, 252, 265, 278, 279, 280, 386, 387] knwc1 = some knwc2 := by kernel_rfl

theorem knwg3 : runG knwX 10000 [0, 1, 2, 4, 5, 35, 36, 42, 43, 46, 49, 52, 55, 58, 61, 64, 66, 67, 68, 246, 412, 417, 418, 419, 420, 421, 422, 423, 424, 425, 438, 439, 440, 441, 443, 444, 445, 446, 447, 482, 483, 484, 485, 486, 487, 562, 563, 564, 565, 566] knwc2 = some knwc3 := by kernel_rfl

theorem knwg4 : runG knwX 10000 [0, 1, 2, 4, 5, 35, 36, 42, 43, 46, 49, 52, 55, 58, 61, 64, 66, 67, 68, 246, 412, 417, 418, 419, 420, 421, 422, 423, 424, 425, 438, 439, 440, 441, 443, 444, 445, 446, 447, 482, 483, 484, 485, 486, 487, 579, 580, 581, 707, 708, 709, 710, 711, 712, 713, 714, 715, 716, 717, 718, 719, 720] knwc3 = some knwc4 := by kernel_rfl

end Go.Ideal
