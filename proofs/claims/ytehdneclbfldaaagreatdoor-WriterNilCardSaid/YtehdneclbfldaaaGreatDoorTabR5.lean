/-
  Part of the proof: the machine that runs a program by fixed orders, and that each of its runs is a run of the model; or a run of it in parts. No conditions.
-/
import Derived.Test.YtehdneclbfldaaaGreatDoorTabD
set_option maxRecDepth 1000000
namespace Go.Ideal
open Go.Proofs

theorem tabg13 : runG tabX 5000 [1, 2, 12, 13] tabc12 = some tabc13 := by kernel_rfl

theorem tabg14 : runG tabX 3124 [1, 2, 12, 13] tabc13 = some tabc14 := by kernel_rfl

end Go.Ideal
