/-
  Part of the proof: the machine that runs a program by fixed orders, and that each of its runs is a run of the model; or a run of it in parts. No conditions.
-/
import Derived.Test.YtehdneclbfldaaaGreatDoorOutD
set_option maxRecDepth 1000000
namespace Go.Ideal
open Go.Proofs

theorem out0x8xg1 (w : Int) : runG outX 5000 [1, 2, 16, 17, 20, 23, 26, 29, 32, 35, 37, 38, 39, 40, 41, 42, 43, 44, 45, 46, 47, 48, 49, 50, 51, 52, 53, 54, 55, 58, 118, 120, 127, 128, 150, 151] (out0x8xc0 w) = some (out0x8xc1 w) := by kernel_rfl
theorem out0x8xg2 (w : Int) : runG outX 1494 [1, 2, 16, 17, 20, 23, 26, 29, 32, 35, 37, 38, 39, 40, 41, 42, 43, 44, 45, 46, 47, 48, 49, 50, 51] (out0x8xc1 w) = some (out0x8xc2 w) := by kernel_rfl
theorem out0x8x1x0xs : (([8, 17, 26, 35, 44, 53, 62, 71, 80, 89, 98, 107, 116, 125, 134, 143, 152, 161, 170, 179, 188, 197, 206, 215, 224, 233, 242, 251] : List Nat).map fun w => runF outX 3 [86] (out0x8xc2 (.ofNat w))) = ([8, 17, 26, 35, 44, 53, 62, 71, 80, 89, 98, 107, 116, 125, 134, 143, 152, 161, 170, 179, 188, 197, 206, 215, 224, 233, 242, 251] : List Nat).map fun w => some (out0x8x1x0xc0 (.ofNat w)) := by kernel_rfl
theorem out0x8x1x0xg1 (w : Int) : runG outX 2414 [1, 2, 16, 17, 20, 23, 26, 29, 32, 35, 37, 38, 39, 40, 41, 42, 43, 44, 45, 46, 47, 48, 49, 50, 51] (out0x8x1x0xc0 w) = some (out0x8x1x0xc1 w) := by kernel_rfl
end Go.Ideal
