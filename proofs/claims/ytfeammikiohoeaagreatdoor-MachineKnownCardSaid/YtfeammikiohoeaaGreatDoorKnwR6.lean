/-
  Part of the proof: the machine that runs a program by fixed orders, and that each of its runs is a run of the model; or a run of it in parts. No conditions.
-/
import Derived.Test.YtfeammikiohoeaaGreatDoorKnwD2
set_option maxRecDepth 1000000
namespace Go.Ideal
open Go.Proofs

theorem knwg21 : runG knwX 10000 [0, 1, 2, 4, 5, 35, 36, 42, 43, 46, 49, 52, 55, 58, 61, 64, 66, 67, 68, 412, 417, 418, 419, 420, 421, 422, 423, 424, 425, 438, 439, 440, 441, 1142, 1536, 1539, 2395, 2450, 2848, 2867, 2870, 2875, 3476, 3562, 3563, 3564, 3565, 3567, 3568, 3569] knwc20 = some knwc21 := by kernel_rfl

theorem knwg22 : runG knwX 6766 [0, 1, 2, 4, 5, 35, 36, 42, 43, 46, 49, 52, 55, 58, 61, 64, 66, 67, 68, 412, 417, 418, 419, 420, 421, 422, 423, 424, 425, 438, 439, 440, 441, 1142, 1536, 1539, 2395, 2450, 2848, 2867, 2870, 2875, 3476, 3562, 3563, 3564, 3565, 3567, 3570, 3572, 3575, 3578, 3581, 3584, 3587, 3589, 3592, 3594, 3596, 3597, 3600, 3601, 3602, 3603, 3604, 3605, 3606, 3607, 3608, 3609, 3616, 3622, 3629, 3636, 3641, 3643, 3647, 3657, 3658, 3659, 3660] knwc21 = some knwc22 := by kernel_rfl

end Go.Ideal
