/-
  Part of the proof: the machine that runs a program by fixed orders, and that each of its runs is a run of the model; or a run of it in parts. No conditions.
-/
import Derived.Test.YtehdneclbfldaaaGreatDoorWrkD
set_option maxRecDepth 1000000
namespace Go.Ideal
open Go.Proofs

theorem wrkg17 : runG wrkX 6000 [1, 2, 16, 17, 20, 23, 26, 29, 32, 35, 37, 38, 39, 40, 41, 42, 43, 44, 45, 46, 47, 48, 49, 50, 51, 64, 255, 466, 469, 808, 850, 1093, 1096, 1466, 1510, 1767, 1786, 1789, 1794, 1795, 1796, 1797, 1798, 1801, 1802, 1809, 1810, 1840, 1841] wrkc16 = some wrkc17 := by kernel_rfl

theorem wrkg18 : runG wrkX 9119 [1, 2, 16, 17, 20, 23, 26, 29, 32, 35, 37, 38, 39, 40, 41, 42, 43, 44, 45, 46, 47, 48, 49, 50, 51, 64, 255, 466, 469, 808, 850, 1093, 1096, 1466, 1510, 1767, 1786, 1789, 1794, 1795, 1796, 1797, 1923, 1924, 1925, 1926, 1927, 1928, 1929, 1930, 1931, 1932, 1933, 1934, 1935, 1936] wrkc17 = some wrkc18 := by kernel_rfl

theorem wrkg19 : runG wrkX 6000 [1, 2, 16, 17, 20, 23, 26, 29, 32, 35, 37, 38, 39, 40, 41, 42, 43, 44, 45, 46, 47, 48, 49, 50, 51, 64, 255, 466, 469, 808, 850, 1093, 1096, 1466, 1510, 1767, 1786, 1789, 1794, 2042, 2043, 2044, 2045, 2048, 2109, 2111, 2118, 2119, 2149, 2150, 2168, 2169] wrkc18 = some wrkc19 := by kernel_rfl

theorem wrkg20 : runG wrkX 6000 [1, 2, 16, 17, 20, 23, 26, 29, 32, 35, 37, 38, 39, 40, 41, 42, 43, 44, 45, 46, 47, 48, 49, 50, 51, 64, 255, 466, 469, 808, 850, 1093, 1096, 1466, 1510, 1767, 1786, 1789, 1794, 2302, 2303, 2304, 2305, 2306, 2307, 2308, 2309, 2310, 2311] wrkc19 = some wrkc20 := by kernel_rfl

end Go.Ideal
