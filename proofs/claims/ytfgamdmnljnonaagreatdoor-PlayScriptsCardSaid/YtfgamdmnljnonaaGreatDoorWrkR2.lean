/-
  Part of the proof: the machine that runs a program by fixed orders, and that each of its runs is a run of the model; or a run of it in parts. No conditions.
-/
import Derived.Test.YtfgamdmnljnonaaGreatDoorWrkD
set_option maxRecDepth 1000000
namespace Go.Ideal
open Go.Proofs

theorem wrkg4 : runG wrkX 13000 [1, 2, 3, 4, 5, 6, 11, 20, 884, 886, 887, 888, 900, 901, 913, 914, 915, 916, 917, 918, 919, 920, 921, 922, 925, 928, 931, 934, 937, 940, 941, 942] wrkc3 = some wrkc4 := by kernel_rfl

theorem wrkg5 : runG wrkX 13000 [1, 2, 3, 4, 5, 6, 11, 20, 884, 886, 887, 888, 900, 901, 913, 914, 915, 916, 921, 922, 925, 928, 931, 934, 937, 940, 943, 945, 946, 947, 948, 1125, 1130, 1131, 1144, 1157, 1158, 1159, 1160, 1174, 1175] wrkc4 = some wrkc5 := by kernel_rfl

theorem wrkg6 : runG wrkX 13000 [1, 2, 3, 4, 5, 6, 11, 20, 884, 886, 887, 888, 914, 915, 921, 922, 925, 928, 931, 934, 937, 940, 943, 945, 946, 947, 1125, 1291, 1296, 1297, 1298, 1299, 1300, 1301, 1302, 1303, 1304, 1317, 1318, 1319, 1320, 1321, 1322, 1323, 1324, 1325, 1342, 1343, 1344, 1345, 1346, 1347, 1371, 1372, 1373, 1374, 1375, 1376, 1391, 1392, 1393, 1394, 1395, 1396, 1397, 1398, 1399, 1411] wrkc5 = some wrkc6 := by kernel_rfl

end Go.Ideal
