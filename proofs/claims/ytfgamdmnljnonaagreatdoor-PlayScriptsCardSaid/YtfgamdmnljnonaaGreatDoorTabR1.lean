/-
  Part of the proof: the machine that runs a program by fixed orders, and that each of its runs is a run of the model; or a run of it in parts. No conditions.
-/
import Derived.Test.YtfgamdmnljnonaaGreatDoorTabD
set_option maxRecDepth 1000000
namespace Go.Ideal
open Go.Proofs

theorem tabg1 : runG tabX 6000 [1, 2, 3, 4, 5, 6, 11, 20, 21] tabc0 = some tabc1 := by kernel_rfl

theorem tabg2 : runG tabX 6000 [1, 2, 3, 4, 5, 6, 11, 20, 21] tabc1 = some tabc2 := by kernel_rfl

theorem tabg3 : runG tabX 6000 [1, 2, 3, 4, 5, 6, 11, 20, 21] tabc2 = some tabc3 := by kernel_rfl

end Go.Ideal
