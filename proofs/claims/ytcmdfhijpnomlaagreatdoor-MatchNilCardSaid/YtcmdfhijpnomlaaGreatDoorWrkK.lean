/-
  Part of the proof: the machine that runs a program by fixed orders, and that each of its runs is a run of the model; or a run of it in parts. No conditions.
-/
import Derived.Test.YtcmdfhijpnomlaaGreatDoorWrkR1
import Derived.Test.YtcmdfhijpnomlaaGreatDoorWrkR2
import Derived.Test.YtcmdfhijpnomlaaGreatDoorWrkR3
import Derived.Test.YtcmdfhijpnomlaaGreatDoorWrkR4
import Derived.Test.YtcmdfhijpnomlaaGreatDoorWrkR5
import Derived.Test.YtcmdfhijpnomlaaGreatDoorWrkR6
import Derived.Test.YtcmdfhijpnomlaaGreatDoorWrkR7
import Derived.Test.YtcmdfhijpnomlaaGreatDoorWrkR8
import Derived.Test.YtcmdfhijpnomlaaGreatDoorWrkR9
import Derived.Test.YtcmdfhijpnomlaaGreatDoorWrkR10
import Derived.Test.YtcmdfhijpnomlaaGreatDoorWrkR11
import Derived.Test.YtcmdfhijpnomlaaGreatDoorWrkR12
import Derived.Test.YtcmdfhijpnomlaaGreatDoorWrkR13
import Derived.Test.YtcmdfhijpnomlaaGreatDoorWrkR14
import Derived.Test.YtcmdfhijpnomlaaGreatDoorWrkR15
import Derived.Test.YtcmdfhijpnomlaaGreatDoorWrkR16
import Derived.Test.YtcmdfhijpnomlaaGreatDoorWrkR17
set_option maxRecDepth 1000000
namespace Go.Ideal
open Go.Proofs

theorem wrkGoes : Goes wrkX wrkc0 wrkc50 :=
  Goes.trans (Goes.runG wrkg1) (Goes.trans (Goes.runG wrkg2) (Goes.trans (Goes.runG wrkg3) (Goes.trans (Goes.runG wrkg4) (Goes.trans (Goes.runG wrkg5) (Goes.trans (Goes.runG wrkg6) (Goes.trans (Goes.runG wrkg7) (Goes.trans (Goes.runG wrkg8) (Goes.trans (Goes.runG wrkg9) (Goes.trans (Goes.runG wrkg10) (Goes.trans (Goes.runG wrkg11) (Goes.trans (Goes.runG wrkg12) (Goes.trans (Goes.runG wrkg13) (Goes.trans (Goes.runG wrkg14) (Goes.trans (Goes.runG wrkg15) (Goes.trans (Goes.runG wrkg16) (Goes.trans (Goes.runG wrkg17) (Goes.trans (Goes.runG wrkg18) (Goes.trans (Goes.runG wrkg19) (Goes.trans (Goes.runG wrkg20) (Goes.trans (Goes.runG wrkg21) (Goes.trans (Goes.runG wrkg22) (Goes.trans (Goes.runG wrkg23) (Goes.trans (Goes.runG wrkg24) (Goes.trans (Goes.runG wrkg25) (Goes.trans (Goes.runG wrkg26) (Goes.trans (Goes.runG wrkg27) (Goes.trans (Goes.runG wrkg28) (Goes.trans (Goes.runG wrkg29) (Goes.trans (Goes.runG wrkg30) (Goes.trans (Goes.runG wrkg31) (Goes.trans (Goes.runG wrkg32) (Goes.trans (Goes.runG wrkg33) (Goes.trans (Goes.runG wrkg34) (Goes.trans (Goes.runG wrkg35) (Goes.trans (Goes.runG wrkg36) (Goes.trans (Goes.runG wrkg37) (Goes.trans (Goes.runG wrkg38) (Goes.trans (Goes.runG wrkg39) (Goes.trans (Goes.runG wrkg40) (Goes.trans (Goes.runG wrkg41) (Goes.trans (Goes.runG wrkg42) (Goes.trans (Goes.runG wrkg43) (Goes.trans (Goes.runG wrkg44) (Goes.trans (Goes.runG wrkg45) (Goes.trans (Goes.runG wrkg46) (Goes.trans (Goes.runG wrkg47) (Goes.trans (Goes.runG wrkg48) (Goes.trans (Goes.runG wrkg49) ((Goes.runG wrkg50))))))))))))))))))))))))))))))))))))))))))))))))))
theorem wrkKnown : KnownOk Tryz.prog wrkLaid wrkK :=
  known_ofI wrkAll (k := wrkK) (n := 139) (N := 20) (by kernel_rfl) wrkGoes (H1 := wrkc50.H) (by kernel_rfl)
end Go.Ideal
