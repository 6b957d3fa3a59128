/-
  Part of the proof: the machine that runs a program by fixed orders, and that each of its runs is a run of the model; or a run of it in parts. No conditions.
-/
import Derived.Test.YtidglbgpoagjlaaGreatDoorWrkD
set_option maxRecDepth 1000000
namespace Go.Ideal
open Go.Proofs

theorem wrkg1 : runG wrkX 6002 [33, 34, 35, 69, 71, 110, 111, 142, 143, 144, 145, 148] wrkc0 = some wrkc1 := by kernel_rfl

theorem wrkg2 : runG wrkX 6000 [34, 35, 161, 267, 277, 278, 279] wrkc1 = some wrkc2 := by kernel_rfl

theorem wrkg3 : runG wrkX 6000 [34, 35, 161, 267, 277, 315, 366, 367, 397, 398, 399, 400, 401, 402, 403, 404, 405, 406, 416, 417, 427, 428, 429, 430, 431, 432] wrkc2 = some wrkc3 := by kernel_rfl

theorem wrkg4 : runG wrkX 809 [35, 366, 367, 397, 398, 427, 437, 442, 452] wrkc3 = some wrkc4 := by kernel_rfl

end Go.Ideal
