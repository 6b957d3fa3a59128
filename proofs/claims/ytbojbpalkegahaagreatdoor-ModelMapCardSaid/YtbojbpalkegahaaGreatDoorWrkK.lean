/-
  Part of the proof: the machine that runs a program by fixed orders, and that each of its runs is a run of the model; or a run of it in parts. No conditions.
-/
import Derived.Test.YtbojbpalkegahaaGreatDoorWrkR1
set_option maxRecDepth 1000000
namespace Go.Ideal
open Go.Proofs

theorem wrkGoes : Goes wrkX wrkc0 wrkc3 :=
  Goes.trans (Goes.runG wrkg1) (Goes.trans (Goes.runG wrkg2) ((Goes.runG wrkg3)))
theorem wrkKnown : KnownOk Tryz.prog wrkLaid wrkK :=
  known_ofI wrkAll (k := wrkK) (n := 145) (N := 17) (by kernel_rfl) wrkGoes (H1 := wrkc3.H) (by kernel_rfl)
end Go.Ideal
