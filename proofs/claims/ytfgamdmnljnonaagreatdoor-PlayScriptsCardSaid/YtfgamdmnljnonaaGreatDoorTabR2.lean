/-
  Part of the proof: the machine that runs a program by fixed orders, and that each of its runs is a run of the model; or a run of it in parts. No conditions.
-/
import Derived.Test.YtfgamdmnljnonaaGreatDoorTabD
set_option maxRecDepth 1000000
namespace Go.Ideal
open Go.Proofs

theorem tabg4 : runG tabX 6000 [1, 2, 3, 4, 5, 6, 11, 20, 21] tabc3 = some tabc4 := by kernel_rfl

theorem tabg5 : runG tabX 6000 [1, 2, 3, 4, 5, 6, 11, 20, 21] tabc4 = some tabc5 := by kernel_rfl

theorem tabg6 : runG tabX 6000 [1, 2, 3, 4, 5, 6, 11, 20, 21] tabc5 = some tabc6 := by kernel_rfl

end Go.Ideal
