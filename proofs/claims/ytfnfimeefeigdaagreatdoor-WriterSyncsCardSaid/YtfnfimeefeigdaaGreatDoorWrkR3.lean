/-
  Part of the proof: the machine that runs a program by fixed orders, and that each of its runs is a run of the model; or a run of it in parts. No conditions.
-/
import Derived.Test.YtfnfimeefeigdaaGreatDoorWrkD
noncomputable section
set_option maxRecDepth 1000000
namespace Go.AD
open Go.Proofs
theorem xC:MM mr 27000 [0,1,15,16,19,22,25,28,31,34,36,37,38,39,40,41,42,43,44,45,46,47,48,49,50,63,254,465,468,807,849,1073,1092,1095,1100,1101,1102,1103,1229,1230,1231,1232,1233,1234,1235,1236,1237,1238,1239,1240,1241,1242,1318,1319,1320,1321,1454,1455,1456,1457,1458,1459,1460,1461] pc=some j9:=by kernel_rfl
end Go.AD
