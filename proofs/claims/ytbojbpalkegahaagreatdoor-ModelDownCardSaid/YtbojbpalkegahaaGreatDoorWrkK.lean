/-
  Part of the proof: the machine that runs a program by fixed orders, and that each of its runs is a run of the model; or a run of it in parts. No conditions.
-/
import Derived.Test.YtbojbpalkegahaaGreatDoorWrkR1
set_option maxRecDepth 1000000
namespace Go.AD
open Go.Proofs
theorem YN:Hh bB aU WC:=
 Hh.trans (Hh.Sf dt) ((Hh.Sf dj))
theorem Xt:IN Tryz.prog Lg VA:=
 UL dD (k:=VA) (n:=145) (N:=17) (by kernel_rfl) YN (H1:=WC.H) (by kernel_rfl)
end Go.AD
