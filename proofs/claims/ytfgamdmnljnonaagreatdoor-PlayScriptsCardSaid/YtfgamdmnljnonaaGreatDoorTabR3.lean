/-
  Part of the proof: the machine that runs a program by fixed orders, and that each of its runs is a run of the model; or a run of it in parts. No conditions.
-/
import Derived.Test.YtfgamdmnljnonaaGreatDoorTabD
set_option maxRecDepth 1000000
namespace Go.Ideal
open Go.Proofs

theorem tabg7 : runG tabX 6000 [1, 2, 3, 4, 5, 6, 11, 20, 21] tabc6 = some tabc7 := by kernel_rfl

theorem tabg8 : runG tabX 6000 [1, 2, 3, 4, 5, 6, 11, 20, 21] tabc7 = some tabc8 := by kernel_rfl

theorem tabg9 : runG tabX 6000 [1, 2, 3, 4, 5, 6, 11, 20, 21] tabc8 = some tabc9 := by kernel_rfl

end Go.Ideal
