/-
  Part of the proof: the machine that runs a program by fixed orders, and that each of its runs is a run of the model; or a run of it in parts. No conditions.
-/
import Derived.Test.YtfgamdmnljnonaaGreatDoorTabD
set_option maxRecDepth 1000000
namespace Go.Ideal
open Go.Proofs

theorem tabg10 : runG tabX 6000 [1, 2, 3, 4, 5, 6, 11, 20, 21] tabc9 = some tabc10 := by kernel_rfl

theorem tabg11 : runG tabX 6000 [1, 2, 3, 4, 5, 6, 11, 20, 21] tabc10 = some tabc11 := by kernel_rfl

theorem tabg12 : runG tabX 2124 [1, 2, 3, 4, 5, 6, 11, 20, 21] tabc11 = some tabc12 := by kernel_rfl

end Go.Ideal
