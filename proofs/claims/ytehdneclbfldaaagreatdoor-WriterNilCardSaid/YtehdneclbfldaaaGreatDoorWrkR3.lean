/-
  Part of the proof: the machine that runs a program by fixed orders, and that each of its runs is a run of the model; or a run of it in parts. No conditions.
-/
import Derived.Test.YtehdneclbfldaaaGreatDoorWrkD
set_option maxRecDepth 1000000
namespace Go.Ideal
open Go.Proofs

theorem wrkg9 : runG wrkX 6000 [1, 2, 16, 17, 20, 23, 26, 29, 32, 35, 37, 38, 39, 40, 41, 42, 43, 44, 45, 46, 47, 48, 49, 50, 51, 64, 255, 466, 469, 808, 831, 847, 850, 854, 855, 856, 857, 858, 861, 922, 924, 931, 932, 962, 963] wrkc8 = some wrkc9 := by kernel_rfl

theorem wrkg10 : runG wrkX 6000 [1, 2, 16, 17, 20, 23, 26, 29, 32, 35, 37, 38, 39, 40, 41, 42, 43, 44, 45, 46, 47, 48, 49, 50, 51, 64, 255, 466, 469, 808, 831, 847, 850, 854, 855, 856, 857, 983, 984, 985, 986, 987, 988, 989, 990, 991, 992, 993, 994, 995, 996, 1056, 1064, 1065, 1066, 1067, 1068, 1072, 1073] wrkc9 = some wrkc10 := by kernel_rfl

theorem wrkg11 : runG wrkX 6000 [1, 2, 16, 17, 20, 23, 26, 29, 32, 35, 37, 38, 39, 40, 41, 42, 43, 44, 45, 46, 47, 48, 49, 50, 51, 64, 255, 466, 469, 808, 850, 1074, 1093, 1096, 1101, 1102, 1103, 1104, 1105, 1108, 1169, 1171, 1178, 1179, 1180] wrkc10 = some wrkc11 := by kernel_rfl

theorem wrkg12 : runG wrkX 6584 [1, 2, 16, 17, 20, 23, 26, 29, 32, 35, 37, 38, 39, 40, 41, 42, 43, 44, 45, 46, 47, 48, 49, 50, 51, 64, 255, 466, 469, 808, 850, 1074, 1093, 1096, 1101, 1102, 1103, 1104, 1230, 1231, 1232, 1233, 1234, 1235, 1236, 1237, 1238, 1239, 1240, 1241, 1242, 1243] wrkc11 = some wrkc12 := by kernel_rfl

end Go.Ideal
