/-
  Part of the proof: the machine that runs a program by fixed orders, and that each of its runs is a run of the model; or a run of it in parts. No conditions.
-/
import Derived.Test.YtnonaponcjffjaaGreatDoorWrkD2
set_option maxRecDepth 1000000
namespace Go.Ideal
open Go.Proofs

theorem wrkg1 : runG wrkX 14000 [1, 2, 3, 4, 5, 6, 21, 196, 197, 198, 210, 211, 223, 224, 225, 226, 231, 232, 235, 238, 241, 244, 247, 250, 253, 255, 256, 257, 258, 274, 275, 288, 301, 302, 303, 372, 373, 374] wrkc0 = some wrkc1 := by kernel_rfl

theorem wrkg2 : runG wrkX 14000 [1, 2, 3, 4, 5, 6, 21, 196, 197, 198, 210, 211, 223, 224, 225, 226, 231, 232, 235, 238, 241, 244, 247, 250, 253, 255, 256, 257, 258, 435, 440, 441, 575, 587, 588, 589, 590, 591] wrkc1 = some wrkc2 := by kernel_rfl

theorem wrkg3 : runG wrkX 14000 [1, 2, 3, 4, 5, 6, 21, 196, 197, 198, 224, 225, 231, 232, 235, 238, 241, 244, 247, 250, 253, 255, 256, 257, 435, 601, 606, 607, 608, 609, 610, 611, 612, 613, 614, 627, 628, 629, 630, 631, 632, 633, 634, 635, 670, 671, 672, 673, 674, 675, 767, 768, 769, 770, 773, 834, 836, 837] wrkc2 = some wrkc3 := by kernel_rfl

end Go.Ideal
