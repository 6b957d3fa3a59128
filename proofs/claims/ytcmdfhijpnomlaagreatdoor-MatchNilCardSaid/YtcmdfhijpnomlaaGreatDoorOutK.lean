/-
  Part of the proof: the machine that runs a program by fixed orders, and that each of its runs is a run of the model; or a run of it in parts. No conditions.
-/
import Derived.Test.YtcmdfhijpnomlaaGreatDoorOutR1
set_option maxRecDepth 1000000
namespace Go.Ideal
open Go.Proofs

theorem mn1Goes : Goes mn1X mn1c0 mn1c3 :=
  Goes.trans (Goes.runG mn1g1) (Goes.trans (Goes.runG mn1g2) ((Goes.runG mn1g3)))
theorem outKnown : KnownOk Tryz.prog mn1Laid mn1K :=
  known_ofI mn1All (k := mn1K) (n := 94) (N := 20) (by kernel_rfl) mn1Goes (H1 := mn1c3.H) (by kernel_rfl)
end Go.Ideal
