/-
  Part of the proof: the machine that runs a program by fixed orders, and that each of its runs is a run of the model; or a run of it in parts. No conditions.
-/
import Derived.Test.YtbojbpalkegahaaGreatDoorWrkD
set_option maxRecDepth 1000000
namespace Go.AD
open Go.Proofs
theorem dt:Sf bB 10000 [0,2,5,6,33,34,35,179,181,241,242,289,290,291,292] aU=some aR:=by kernel_rfl
theorem dj:Sf bB 8811 [0,2,5,6,35,416,417,447,448,477,487,492,502] aR=some WC:=by kernel_rfl
end Go.AD
