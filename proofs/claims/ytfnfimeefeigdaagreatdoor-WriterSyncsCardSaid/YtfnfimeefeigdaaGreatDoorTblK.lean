/-
  Part of the proof: the machine that runs a program by fixed orders, and that each of its runs is a run of the model; or a run of it in parts. No conditions.
-/
import Derived.Test.YtfnfimeefeigdaaGreatDoorTblR1
import Derived.Test.YtfnfimeefeigdaaGreatDoorTblR2
import Derived.Test.YtfnfimeefeigdaaGreatDoorTblR3
noncomputable section
set_option maxRecDepth 1000000
namespace Go.AD
open Go.Proofs
theorem oX:HQ mc po fo:=
 HQ.trans (HQ.MM vO) (HQ.trans (HQ.MM wX) ((HQ.MM wU)))
theorem Wp:K0 Tryz.prog Ml SH:=
 Sp ru (k:=SH) (n:=25) (N:=11) (by kernel_rfl) oX (H1:=fo.H) (by kernel_rfl)
end Go.AD
