/-
  Part of the proof: the machine that runs a program by fixed orders, and that each of its runs is a run of the model; or a run of it in parts. No conditions.
-/
import Derived.Test.YtfgamdmnljnonaaGreatDoorWrkR1
import Derived.Test.YtfgamdmnljnonaaGreatDoorWrkR2
import Derived.Test.YtfgamdmnljnonaaGreatDoorWrkR3
import Derived.Test.YtfgamdmnljnonaaGreatDoorWrkR4
set_option maxRecDepth 1000000
namespace Go.Ideal
open Go.Proofs

theorem wrkGoes : Goes wrkX wrkc0 wrkc11 :=
  Goes.trans (Goes.runG wrkg1) (Goes.trans (Goes.runG wrkg2) (Goes.trans (Goes.runG wrkg3) (Goes.trans (Goes.runG wrkg4) (Goes.trans (Goes.runG wrkg5) (Goes.trans (Goes.runG wrkg6) (Goes.trans (Goes.runG wrkg7) (Goes.trans (Goes.runG wrkg8) (Goes.trans (Goes.runG wrkg9) (Goes.trans (Goes.runG wrkg10) ((Goes.runG wrkg11)))))))))))
theorem wrkKnown : KnownOk Tryz.prog wrkLaid wrkK :=
  known_ofI wrkAll (k := wrkK) (n := 131) (N := 20) (by kernel_rfl) wrkGoes (H1 := wrkc11.H) (by kernel_rfl)
end Go.Ideal
