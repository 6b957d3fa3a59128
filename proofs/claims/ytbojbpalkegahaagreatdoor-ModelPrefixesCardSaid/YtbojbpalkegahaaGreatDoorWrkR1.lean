/-
  Part of the proof: the machine that runs a program by fixed orders, and that each of its runs is a run of the model; or a run of it in parts. No conditions.
-/
import Derived.Test.YtbojbpalkegahaaGreatDoorWrkD
noncomputable section
set_option maxRecDepth 1000000
namespace Go.AI
open Go.Proofs
theorem iv:TJ fZ 10000 [0,2,5,6,33,34,35,179,181,241,242,289,290,291,292] dZ=some dH:=by kernel_rfl
theorem hI:TJ fZ 8811 [0,2,5,6,35,416,417,447,448,477,487,492,502] dH=some Wr:=by kernel_rfl
end Go.AI
