/-
  Part of the proof: the machine that runs a program by fixed orders, and that each of its runs is a run of the model; or a run of it in parts. No conditions.
-/
import Derived.Test.YtfeammikiohoeaaGreatDoorKnwR1
import Derived.Test.YtfeammikiohoeaaGreatDoorKnwR2
import Derived.Test.YtfeammikiohoeaaGreatDoorKnwR3
import Derived.Test.YtfeammikiohoeaaGreatDoorKnwR4
import Derived.Test.YtfeammikiohoeaaGreatDoorKnwR5
import Derived.Test.YtfeammikiohoeaaGreatDoorKnwR6
set_option maxRecDepth 1000000
namespace Go.Ideal
open Go.Proofs

theorem knwGoes : Goes knwX knwc0 knwc22 :=
  Goes.trans (Goes.runG knwg1) (Goes.trans (Goes.runG knwg2) (Goes.trans (Goes.runG knwg3) (Goes.trans (Goes.runG knwg4) (Goes.trans (Goes.runG knwg5) (Goes.trans (Goes.runG knwg6) (Goes.trans (Goes.runG knwg7) (Goes.trans (Goes.runG knwg8) (Goes.trans (Goes.runG knwg9) (Goes.trans (Goes.runG knwg10) (Goes.trans (Goes.runG knwg11) (Goes.trans (Goes.runG knwg12) (Goes.trans (Goes.runG knwg13) (Goes.trans (Goes.runG knwg14) (Goes.trans (Goes.runG knwg15) (Goes.trans (Goes.runG knwg16) (Goes.trans (Goes.runG knwg17) (Goes.trans (Goes.runG knwg18) (Goes.trans (Goes.runG knwg19) (Goes.trans (Goes.runG knwg20) (Goes.trans (Goes.runG knwg21) ((Goes.runG knwg22))))))))))))))))))))))
theorem knwKnown : KnownOk Tryz.prog knwLaid knwK :=
  known_ofI knwAll (k := knwK) (n := 90) (N := 20) (by kernel_rfl) knwGoes (H1 := knwc22.H) (by kernel_rfl)
end Go.Ideal
