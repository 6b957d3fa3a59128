/-
  Part of the proof: the machine that runs a program by fixed orders, and that each of its runs is a run of the model; or a run of it in parts. No conditions.
-/
import Derived.Test.YtfnfimeefeigdaaGreatDoorWrkD
noncomputable section
set_option maxRecDepth 1000000
namespace Go.AD
open Go.Proofs
theorem zV:MM mr 27000 [0,1,15,16,19,22,25,28,31,34,36,37,38,39,40,41,42,43,44,45,46,47,48,49,50,63,254,465,468,807,849,1092,1095,1465,1509,1766,1785,1788,1793,1794,1795,1796,1922,1923,1924,1925,1926,1927,1928,1929,1930,1931,1932,1933,1934,1935,1936,1937,1938,1939,1940,1941,1942] j9=some uA:=by kernel_rfl
end Go.AD
