/-
  Part of the proof: fixed runs of a program. No conditions.
-/
import Derived.Test.YtfnfimeefeigdaaGreatDoorWrkD
noncomputable section
set_option maxRecDepth 1000000
namespace Go.AB
open Go.Proofs
theorem wm:L0 fV 32090 [0,1,15,16,19,22,25,28,31,34,36,37,38,39,40,41,42,43,44,45,46,47,48,49,50,63,254,465,468,807,849,1092,1095,1465,1488,1506,1509,1514,1515,1516,1517,1643,1644,1645,1646,1647,1648,1649,1650,1651,1652,1653,1654,1655,1656,1748] qj=some lQ:=by kernel_rfl
end Go.AB
