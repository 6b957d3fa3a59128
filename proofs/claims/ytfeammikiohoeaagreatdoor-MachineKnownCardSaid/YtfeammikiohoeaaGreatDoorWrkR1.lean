/-
  Part of the proof: the machine that runs a program by fixed orders, and that each of its runs is a run of the model; or a run of it in parts. No conditions.
-/
import Derived.Test.YtfeammikiohoeaaGreatDoorWrkD2
set_option maxRecDepth 1000000
namespace Go.Ideal
open Go.Proofs

theorem wrkg1 : runG wrkX 10000 [0, 1, 2, 4, 5, 21, 22, 34, 35, 36, 37, 42, 43, 46, 49, 52, 55, 58, 61, 64, 66, 67, 68, 69, 85, 86, 99, 112, 113, 114, 220, 221] wrkc0 = some wrkc1 := by kernel_rfl

theorem wrkg2 : runG wrkX 10000 [0, 1, 2, 4, 5, 21, 22, 34, 35, 36, 37, 42, 43, 46, 49, 52, 55, 58, 61, 64, 66, 67, 68, 69, 246, 251, 252, 265, 278, 279, 280, 386, 387] wrkc1 = some wrkc2 := by kernel_rfl

theorem wrkg3 : runG wrkX 10000 [0, 1, 2, 4, 5, 35, 36, 42, 43, 46, 49, 52, 55, 58, 61, 64, 66, 67, 68, 246, 412, 417, 418, 419, 420, 421, 422, 423, 424, 425, 438, 439, 440, 441, 443, 444, 445, 446, 447, 464, 465, 466, 467, 468, 469, 549, 550, 551, 552, 553, 554, 555, 556] wrkc2 = some wrkc3 := by kernel_rfl

theorem wrkg4 : runG wrkX 10002 [0, 1, 2, 4, 5, 35, 36, 42, 43, 46, 49, 52, 55, 58, 61, 64, 66, 67, 68, 246, 412, 417, 418, 419, 420, 421, 422, 423, 424, 425, 438, 439, 440, 441, 443, 444, 445, 446, 447, 464, 465, 466, 467, 468, 469, 561, 562, 563, 689, 690, 691, 692, 693, 694, 695, 696, 697, 698, 699, 700, 701, 702, 716] wrkc3 = some wrkc4 := by kernel_rfl

end Go.Ideal
