/-
  Part of the proof: the machine that runs a program by fixed orders, and that each of its runs is a run of the model; or a run of it in parts. No conditions.
-/
import Derived.Test.YtdlfppandkdjfaaGreatDoorOutD
set_option maxRecDepth 1000000
namespace Go.Ideal
open Go.Proofs

theorem out0x3xg1 (w : Int) : runG outX 780 [0, 1, 15, 16, 19, 22, 25, 28, 31, 34, 36, 37, 38, 39, 40, 41, 42, 43, 44, 45, 46, 47, 48, 49] (out0x3xc0 w) = some (out0x3xc1 w) := by kernel_rfl
theorem out0x4xs : (([4, 13, 22, 31, 40, 49, 58, 67, 76, 85, 94, 103, 112, 121, 130, 139, 148, 157, 166, 175, 184, 193, 202, 211, 220, 229, 238, 247] : List Nat).map fun w => runF outX 2 [41] (outc1 (.ofNat w))) = ([4, 13, 22, 31, 40, 49, 58, 67, 76, 85, 94, 103, 112, 121, 130, 139, 148, 157, 166, 175, 184, 193, 202, 211, 220, 229, 238, 247] : List Nat).map fun w => some (out0x4xc0 (.ofNat w)) := by kernel_rfl
theorem out0x4xg1 (w : Int) : runG outX 988 [0, 1, 15, 16, 19, 22, 25, 28, 31, 34, 36, 37, 38, 39, 40, 41, 42, 43, 44, 45, 46, 47, 48] (out0x4xc0 w) = some (out0x4xc1 w) := by kernel_rfl
theorem out0x5xs : (([5, 14, 23, 32, 41, 50, 59, 68, 77, 86, 95, 104, 113, 122, 131, 140, 149, 158, 167, 176, 185, 194, 203, 212, 221, 230, 239, 248] : List Nat).map fun w => runF outX 2 [41] (outc1 (.ofNat w))) = ([5, 14, 23, 32, 41, 50, 59, 68, 77, 86, 95, 104, 113, 122, 131, 140, 149, 158, 167, 176, 185, 194, 203, 212, 221, 230, 239, 248] : List Nat).map fun w => some (out0x5xc0 (.ofNat w)) := by kernel_rfl
theorem out0x5xg1 (w : Int) : runG outX 996 [0, 1, 15, 16, 19, 22, 25, 28, 31, 34, 36, 37, 38, 39, 40, 41, 42, 43, 44, 45, 46, 47, 48, 49] (out0x5xc0 w) = some (out0x5xc1 w) := by kernel_rfl
theorem out0x6xs : (([6, 15, 24, 33, 42, 51, 60, 69, 78, 87, 96, 105, 114, 123, 132, 141, 150, 159, 168, 177, 186, 195, 204, 213, 222, 231, 240, 249] : List Nat).map fun w => runF outX 2 [41] (outc1 (.ofNat w))) = ([6, 15, 24, 33, 42, 51, 60, 69, 78, 87, 96, 105, 114, 123, 132, 141, 150, 159, 168, 177, 186, 195, 204, 213, 222, 231, 240, 249] : List Nat).map fun w => some (out0x6xc0 (.ofNat w)) := by kernel_rfl
theorem out0x6xg1 (w : Int) : runG outX 2273 [0, 1, 15, 16, 19, 22, 25, 28, 31, 34, 36, 37, 38, 39, 40, 41, 42, 43, 44, 45, 46, 47, 52, 53, 56, 59, 62, 65, 68, 71, 74, 76, 77, 78, 79] (out0x6xc0 w) = some (out0x6xc1 w) := by kernel_rfl
end Go.Ideal
