/-
  Part of the proof: the machine that runs a program by fixed orders, and that each of its runs is a run of the model; or a run of it in parts. No conditions.
-/
import Derived.Test.YtcmdfhijpnomlaaGreatDoorKnwD
set_option maxRecDepth 1000000
namespace Go.Ideal
open Go.Proofs

theorem mn0g1 : runG mn0X 14000 [0, 1, 2, 4, 5, 6, 21, 22, 34, 35, 36, 37, 42, 43, 46, 49, 52, 55, 58, 61, 64, 66, 67, 68, 69, 246, 251, 252, 265, 278, 279, 280, 281] mn0c0 = some mn0c1 := by kernel_rfl

theorem mn0g2 : runG mn0X 14000 [0, 1, 2, 4, 5, 6, 35, 36, 42, 43, 46, 49, 52, 55, 58, 61, 64, 66, 67, 68, 246, 412, 417, 418, 419, 420, 421, 422, 423, 424, 425, 438, 439, 440, 441, 442, 443, 513] mn0c1 = some mn0c2 := by kernel_rfl

theorem mn0g3 : runG mn0X 2984 [0, 1, 2, 4, 5, 6, 35, 36, 42, 43, 46, 49, 52, 55, 58, 61, 64, 66, 67, 68, 246, 412, 417, 418, 419, 420, 421, 422, 423, 424, 425, 438, 439, 440, 441, 442, 443] mn0c2 = some mn0c3 := by kernel_rfl

end Go.Ideal
