/-
  Part of the proof: the machine that runs a program by fixed orders, and that each of its runs is a run of the model; or a run of it in parts. No conditions.
-/
import Derived.Test.YtfgamdmnljnonaaGreatDoorTabR1
import Derived.Test.YtfgamdmnljnonaaGreatDoorTabR2
import Derived.Test.YtfgamdmnljnonaaGreatDoorTabR3
import Derived.Test.YtfgamdmnljnonaaGreatDoorTabR4
set_option maxRecDepth 1000000
namespace Go.Ideal
open Go.Proofs

theorem tabGoes : Goes tabX tabc0 tabc12 :=
  Goes.trans (Goes.runG tabg1) (Goes.trans (Goes.runG tabg2) (Goes.trans (Goes.runG tabg3) (Goes.trans (Goes.runG tabg4) (Goes.trans (Goes.runG tabg5) (Goes.trans (Goes.runG tabg6) (Goes.trans (Goes.runG tabg7) (Goes.trans (Goes.runG tabg8) (Goes.trans (Goes.runG tabg9) (Goes.trans (Goes.runG tabg10) (Goes.trans (Goes.runG tabg11) ((Goes.runG tabg12))))))))))))
theorem tabKnown : KnownOk Tryz.prog tabLaid tabK :=
  known_ofI tabAll (k := tabK) (n := 25) (N := 20) (by kernel_rfl) tabGoes (H1 := tabc12.H) (by kernel_rfl)
end Go.Ideal
