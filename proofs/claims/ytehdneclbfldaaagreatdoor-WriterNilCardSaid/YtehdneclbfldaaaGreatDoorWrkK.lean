/-
  Part of the proof: the machine that runs a program by fixed orders, and that each of its runs is a run of the model; or a run of it in parts. No conditions.
-/
import Derived.Test.YtehdneclbfldaaaGreatDoorWrkR1
import Derived.Test.YtehdneclbfldaaaGreatDoorWrkR2
import Derived.Test.YtehdneclbfldaaaGreatDoorWrkR3
import Derived.Test.YtehdneclbfldaaaGreatDoorWrkR4
import Derived.Test.YtehdneclbfldaaaGreatDoorWrkR5
import Derived.Test.YtehdneclbfldaaaGreatDoorWrkR6
set_option maxRecDepth 1000000
namespace Go.Ideal
open Go.Proofs

theorem wrkGoes : Goes wrkX wrkc0 wrkc21 :=
  Goes.trans (Goes.runG wrkg1) (Goes.trans (Goes.runG wrkg2) (Goes.trans (Goes.runG wrkg3) (Goes.trans (Goes.runG wrkg4) (Goes.trans (Goes.runG wrkg5) (Goes.trans (Goes.runG wrkg6) (Goes.trans (Goes.runG wrkg7) (Goes.trans (Goes.runG wrkg8) (Goes.trans (Goes.runG wrkg9) (Goes.trans (Goes.runG wrkg10) (Goes.trans (Goes.runG wrkg11) (Goes.trans (Goes.runG wrkg12) (Goes.trans (Goes.runG wrkg13) (Goes.trans (Goes.runG wrkg14) (Goes.trans (Goes.runG wrkg15) (Goes.trans (Goes.runG wrkg16) (Goes.trans (Goes.runG wrkg17) (Goes.trans (Goes.runG wrkg18) (Goes.trans (Goes.runG wrkg19) (Goes.trans (Goes.runG wrkg20) ((Goes.runG wrkg21)))))))))))))))))))))
theorem wrkKnown : KnownOk Tryz.prog wrkLaid wrkK :=
  known_of2 (ks := wrkKs) (fun k hk => by
    simp only [wrkKs, List.mem_cons, List.not_mem_nil, or_false] at hk
    rcases hk with rfl
    · exact tabKnown) (k := wrkK) (n := 136) (N := 12) (by kernel_rfl) wrkGoes (H1 := wrkc21.H) (by kernel_rfl)
end Go.Ideal
