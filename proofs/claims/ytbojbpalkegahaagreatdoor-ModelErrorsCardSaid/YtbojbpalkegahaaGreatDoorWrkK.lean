/-
  Part of the proof: the machine that runs a program by fixed orders, and that each of its runs is a run of the model; or a run of it in parts. No conditions.
-/
import Derived.Test.YtbojbpalkegahaaGreatDoorWrkR1
set_option maxRecDepth 1000000
namespace Go.AD
open Go.Proofs
theorem aO:Hp bx bE XV:=
 Hp.trans (Hp.Rq dj) ((Hp.Rq dv))
theorem Xn:IH Tryz.prog K1 UZ:=
 VJ cU (k:=UZ) (n:=145) (N:=17) (by kernel_rfl) aO (H1:=XV.H) (by kernel_rfl)
end Go.AD
