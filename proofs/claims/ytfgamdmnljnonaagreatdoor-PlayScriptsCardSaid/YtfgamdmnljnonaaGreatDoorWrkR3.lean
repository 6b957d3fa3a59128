/-
  Part of the proof: the machine that runs a program by fixed orders, and that each of its runs is a run of the model; or a run of it in parts. No conditions.
-/
import Derived.Test.YtfgamdmnljnonaaGreatDoorWrkD
set_option maxRecDepth 1000000
namespace Go.Ideal
open Go.Proofs

theorem wrkg7 : runG wrkX 13000 [1, 2, 3, 4, 5, 6, 11, 20, 884, 886, 887, 888, 914, 915, 921, 922, 925, 928, 931, 934, 937, 940, 943, 945, 946, 947, 1125, 1291, 1296, 1297, 1298, 1299, 1300, 1301, 1302, 1303, 1304, 1317, 1318, 1319, 1320, 1321, 1322, 1323, 1324, 1325, 1342, 1343, 1344, 1345, 1346, 1347, 1439, 1440, 1441, 1567, 1568, 1569, 1570, 1571, 1572, 1573, 1574, 1575, 1576, 1577, 1578, 1579, 1580, 1594, 1597, 1598, 1599, 1600, 1601] wrkc6 = some wrkc7 := by kernel_rfl

theorem wrkg8 : runG wrkX 13001 [1, 2, 3, 4, 5, 6, 11, 20, 884, 1754, 1810, 1812, 1824, 1825, 1837, 1838, 1839, 1840, 1841, 1842] wrkc7 = some wrkc8 := by kernel_rfl

theorem wrkg9 : runG wrkX 13000 [1, 2, 3, 4, 5, 6, 11, 20, 884, 1754, 1810, 1812, 1824, 1825, 1837, 1838, 1839, 1840, 1845, 1846, 1849, 1852, 1855, 1858, 1861, 1864, 1867, 1869, 1870, 1871, 1872, 2049, 2054, 2055, 2068, 2069, 2070, 2073, 2079, 2080] wrkc8 = some wrkc9 := by kernel_rfl

end Go.Ideal
