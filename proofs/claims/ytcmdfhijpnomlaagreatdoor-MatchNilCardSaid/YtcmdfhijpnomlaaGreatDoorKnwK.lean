/-
  Part of the proof: the machine that runs a program by fixed orders, and that each of its runs is a run of the model; or a run of it in parts. No conditions.
-/
import Derived.Test.YtcmdfhijpnomlaaGreatDoorKnwR1
set_option maxRecDepth 1000000
namespace Go.Ideal
open Go.Proofs

theorem mn0Goes : Goes mn0X mn0c0 mn0c3 :=
  Goes.trans (Goes.runG mn0g1) (Goes.trans (Goes.runG mn0g2) ((Goes.runG mn0g3)))
theorem knwKnown : KnownOk Tryz.prog mn0Laid mn0K :=
  known_ofI mn0All (k := mn0K) (n := 94) (N := 20) (by kernel_rfl) mn0Goes (H1 := mn0c3.H) (by kernel_rfl)
end Go.Ideal
