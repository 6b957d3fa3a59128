/-
  Part of the proof: the machine that runs a program by fixed orders, and that each of its runs is a run of the model; or a run of it in parts. No conditions.
-/
import Derived.Test.YtjaogllgillaiaaGreatDoorWrkD
set_option maxRecDepth 1000000
namespace Go.Ideal
open Go.Proofs

theorem wrkg11 : runG wrkX 6000 [0, 10, 15, 16, 19, 22, 25, 28, 31, 33, 34, 35, 427, 578, 581, 582, 583, 727, 738, 817, 820, 824, 850, 851, 852, 853, 867, 868, 869, 1013, 1024, 1103, 1106, 1110, 1113, 1114, 1115, 1116, 1117, 1118] wrkc10 = some wrkc11 := by kernel_rfl

theorem wrkg12 : runG wrkX 6000 [0, 10, 15, 16, 19, 22, 25, 28, 31, 33, 34, 35, 427, 578, 581, 582, 583, 727, 738, 817, 820, 824, 867, 868, 869, 1013, 1024, 1103, 1106, 1110, 1113, 1114, 1115, 1116, 1117, 1118, 1180, 1181, 1182, 1187, 1198, 1199, 1202, 1203] wrkc11 = some wrkc12 := by kernel_rfl

theorem wrkg13 : runG wrkX 6000 [0, 10, 15, 16, 19, 22, 25, 28, 31, 33, 34, 35, 427, 578, 581, 582, 583, 727, 738, 817, 820, 824, 867, 868, 869, 1013, 1024, 1103, 1106, 1110, 1113, 1114, 1115, 1116, 1117, 1118, 1180, 1181, 1182, 1228, 1239, 1240] wrkc12 = some wrkc13 := by kernel_rfl

theorem wrkg14 : runG wrkX 1184 [0, 10, 15, 16, 19, 22, 25, 28, 31, 33, 34, 35, 427, 578, 581, 582, 583, 727, 738, 817, 820, 824, 867, 868, 869, 1013, 1024, 1103, 1106, 1110, 1113, 1114, 1115, 1116, 1117, 1118, 1180, 1181] wrkc13 = some wrkc14 := by kernel_rfl

end Go.Ideal
