/-
  Part of the proof: the machine that runs a program by fixed orders, and that each of its runs is a run of the model; or a run of it in parts. No conditions.
-/
import Derived.Test.YtjaogllgillaiaaGreatDoorTabD
set_option maxRecDepth 1000000
namespace Go.Ideal
open Go.Proofs

theorem tabg1 : runG tabX 6000 [0, 10, 11] tabc0 = some tabc1 := by kernel_rfl

theorem tabg2 : runG tabX 6000 [0, 10, 11] tabc1 = some tabc2 := by kernel_rfl

theorem tabg3 : runG tabX 6000 [0, 10, 11] tabc2 = some tabc3 := by kernel_rfl

theorem tabg4 : runG tabX 6000 [0, 10, 11] tabc3 = some tabc4 := by kernel_rfl

theorem tabg5 : runG tabX 6000 [0, 10, 11] tabc4 = some tabc5 := by kernel_rfl

theorem tabg6 : runG tabX 6000 [0, 10, 11] tabc5 = some tabc6 := by kernel_rfl

end Go.Ideal
