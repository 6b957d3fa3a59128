/-
  Part of the proof: the machine that runs a program by fixed orders, and that each of its runs is a run of the model; or a run of it in parts. No conditions.
-/
import Derived.Test.YtbojbpalkegahaaGreatDoorWrkD
set_option maxRecDepth 1000000
namespace Go.Ideal
open Go.Proofs

theorem wrkg1 : runG wrkX 8000 [0, 33, 34, 35, 179, 181, 182, 183, 230, 231, 232, 233, 234] wrkc0 = some wrkc1 := by kernel_rfl

theorem wrkg2 : runG wrkX 8000 [0, 34, 35, 179, 317, 327, 365, 393, 394] wrkc1 = some wrkc2 := by kernel_rfl

theorem wrkg3 : runG wrkX 2811 [0, 35, 416, 417, 447, 448, 477, 487, 492, 502] wrkc2 = some wrkc3 := by kernel_rfl

end Go.Ideal
