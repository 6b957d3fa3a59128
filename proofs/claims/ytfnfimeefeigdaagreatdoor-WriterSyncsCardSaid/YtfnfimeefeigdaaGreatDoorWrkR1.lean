/-
  Part of the proof: the machine that runs a program by fixed orders, and that each of its runs is a run of the model; or a run of it in parts. No conditions.
-/
import Derived.Test.YtfnfimeefeigdaaGreatDoorWrkD
noncomputable section
set_option maxRecDepth 1000000
namespace Go.AD
open Go.Proofs
theorem wk:MM mr 27000 [0,1,15,16,19,22,25,28,31,34,36,37,38,39,40,41,42,43,44,45,46,47,48,49,50,63,251,254,257,258,259,260,386,387,388,389,390,391,392,393,394,395,396,397,398,399,430,438,439,448,449,450,455,456,457,458] qV=some qA:=by kernel_rfl
end Go.AD
