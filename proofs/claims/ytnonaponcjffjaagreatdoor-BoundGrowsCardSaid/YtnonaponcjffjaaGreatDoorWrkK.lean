/-
  Part of the proof: the machine that runs a program by fixed orders, and that each of its runs is a run of the model; or a run of it in parts. No conditions.
-/
import Derived.Test.YtnonaponcjffjaaGreatDoorWrkR1
import Derived.Test.YtnonaponcjffjaaGreatDoorWrkR2
import Derived.Test.YtnonaponcjffjaaGreatDoorWrkR3
import Derived.Test.YtnonaponcjffjaaGreatDoorWrkR4
import Derived.Test.YtnonaponcjffjaaGreatDoorWrkR5
import Derived.Test.YtnonaponcjffjaaGreatDoorWrkR6
import Derived.Test.YtnonaponcjffjaaGreatDoorWrkR7
set_option maxRecDepth 1000000
namespace Go.Ideal
open Go.Proofs

theorem wrkGoes : Goes wrkX wrkc0 wrkc20 :=
  Goes.trans (Goes.runG wrkg1) (Goes.trans (Goes.runG wrkg2) (Goes.trans (Goes.runG wrkg3) (Goes.trans (Goes.runG wrkg4) (Goes.trans (Goes.runG wrkg5) (Goes.trans (Goes.runG wrkg6) (Goes.trans (Goes.runG wrkg7) (Goes.trans (Goes.runG wrkg8) (Goes.trans (Goes.runG wrkg9) (Goes.trans (Goes.runG wrkg10) (Goes.trans (Goes.runG wrkg11) (Goes.trans (Goes.runG wrkg12) (Goes.trans (Goes.runG wrkg13) (Goes.trans (Goes.runG wrkg14) (Goes.trans (Goes.runG wrkg15) (Goes.trans (Goes.runG wrkg16) (Goes.trans (Goes.runG wrkg17) (Goes.trans (Goes.runG wrkg18) (Goes.trans (Goes.runG wrkg19) ((Goes.runG wrkg20))))))))))))))))))))
theorem wrkKnown : KnownOk Tryz.prog wrkLaid wrkK :=
  known_ofI wrkAll (k := wrkK) (n := 185) (N := 20) (by kernel_rfl) wrkGoes (H1 := wrkc20.H) (by kernel_rfl)
end Go.Ideal
