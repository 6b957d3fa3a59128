/-
  Part of the proof: the machine that runs a program by fixed orders, and that each of its runs is a run of the model; or a run of it in parts. No conditions.
-/
import Derived.Test.YtfgamdmnljnonaaGreatDoorWrkD
set_option maxRecDepth 1000000
namespace Go.Ideal
open Go.Proofs

theorem wrkg10 : runG wrkX 13000 [1, 2, 3, 4, 5, 6, 11, 20, 884, 1754, 1810, 1838, 1839, 1845, 1846, 1849, 1852, 1855, 1858, 1861, 1864, 1867, 1869, 1870, 1871, 2049, 2215, 2220, 2221, 2222, 2223, 2224, 2225, 2226, 2227, 2228, 2241, 2242, 2243, 2244, 2245, 2246, 2247, 2248, 2249, 2250, 2253, 2256, 2259, 2262, 2265, 2268, 2270, 2273, 2275, 2277, 2278, 2281, 2282, 2283, 2284, 2285, 2286, 2287, 2288, 2289, 2290, 2291, 2292, 2293, 2301, 2302] wrkc9 = some wrkc10 := by kernel_rfl

theorem wrkg11 : runG wrkX 11890 [1, 2, 3, 4, 5, 6, 11, 20, 884, 1754, 1810, 1838, 1839, 1845, 1846, 1849, 1852, 1855, 1858, 1861, 1864, 1867, 1869, 1870, 1871, 2049, 2215, 2220, 2221, 2222, 2223, 2224, 2225, 2226, 2227, 2228, 2241, 2242, 2243, 2244, 2351, 2353, 2555, 2556, 2557] wrkc10 = some wrkc11 := by kernel_rfl

end Go.Ideal
