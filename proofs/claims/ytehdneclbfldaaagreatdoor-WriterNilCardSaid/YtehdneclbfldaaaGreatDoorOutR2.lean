/-
  Part of the proof: the machine that runs a program by fixed orders, and that each of its runs is a run of the model; or a run of it in parts. No conditions.
-/
import Derived.Test.YtehdneclbfldaaaGreatDoorOutD
set_option maxRecDepth 1000000
namespace Go.Ideal
open Go.Proofs

theorem out0x2x1x0xs : (([2, 11, 20, 29, 38, 47, 56, 65, 74, 83, 92, 101, 110, 119, 128, 137, 146, 155, 164, 173, 182, 191, 200, 209, 218, 227, 236, 245, 254] : List Nat).map fun w => runF outX 3 [86] (out0x2xc2 (.ofNat w))) = ([2, 11, 20, 29, 38, 47, 56, 65, 74, 83, 92, 101, 110, 119, 128, 137, 146, 155, 164, 173, 182, 191, 200, 209, 218, 227, 236, 245, 254] : List Nat).map fun w => some (out0x2x1x0xc0 (.ofNat w)) := by kernel_rfl
theorem out0x2x1x0xg1 (w : Int) : runG outX 414 [1, 2, 16, 17, 20, 23, 26, 29, 32, 35, 37, 38, 39, 40, 41, 42, 43, 44, 45, 46, 47, 48] (out0x2x1x0xc0 w) = some (out0x2x1x0xc1 w) := by kernel_rfl
theorem out0x3xs : (([3, 12, 21, 30, 39, 48, 57, 66, 75, 84, 93, 102, 111, 120, 129, 138, 147, 156, 165, 174, 183, 192, 201, 210, 219, 228, 237, 246, 255] : List Nat).map fun w => runF outX 2 [25] (outc1 (.ofNat w))) = ([3, 12, 21, 30, 39, 48, 57, 66, 75, 84, 93, 102, 111, 120, 129, 138, 147, 156, 165, 174, 183, 192, 201, 210, 219, 228, 237, 246, 255] : List Nat).map fun w => some (out0x3xc0 (.ofNat w)) := by kernel_rfl
theorem out0x3xg1 (w : Int) : runG outX 5000 [1, 2, 16, 17, 20, 23, 26, 29, 32, 35, 37, 38, 39, 40, 41, 42, 43, 44, 45, 46, 47, 48, 49, 50, 51, 52, 53, 56, 116, 118, 125, 126, 148, 149, 150] (out0x3xc0 w) = some (out0x3xc1 w) := by kernel_rfl
theorem out0x3xg2 (w : Int) : runG outX 1311 [1, 2, 16, 17, 20, 23, 26, 29, 32, 35, 37, 38, 39, 40, 41, 42, 43, 44, 45, 46, 47, 48, 49] (out0x3xc1 w) = some (out0x3xc2 w) := by kernel_rfl
theorem out0x3x1x0xs : (([3, 12, 21, 30, 39, 48, 57, 66, 75, 84, 93, 102, 111, 120, 129, 138, 147, 156, 165, 174, 183, 192, 201, 210, 219, 228, 237, 246, 255] : List Nat).map fun w => runF outX 3 [86] (out0x3xc2 (.ofNat w))) = ([3, 12, 21, 30, 39, 48, 57, 66, 75, 84, 93, 102, 111, 120, 129, 138, 147, 156, 165, 174, 183, 192, 201, 210, 219, 228, 237, 246, 255] : List Nat).map fun w => some (out0x3x1x0xc0 (.ofNat w)) := by kernel_rfl
theorem out0x3x1x0xg1 (w : Int) : runG outX 414 [1, 2, 16, 17, 20, 23, 26, 29, 32, 35, 37, 38, 39, 40, 41, 42, 43, 44, 45, 46, 47, 48, 49] (out0x3x1x0xc0 w) = some (out0x3x1x0xc1 w) := by kernel_rfl
theorem out0x4xs : (([4, 13, 22, 31, 40, 49, 58, 67, 76, 85, 94, 103, 112, 121, 130, 139, 148, 157, 166, 175, 184, 193, 202, 211, 220, 229, 238, 247] : List Nat).map fun w => runF outX 2 [25] (outc1 (.ofNat w))) = ([4, 13, 22, 31, 40, 49, 58, 67, 76, 85, 94, 103, 112, 121, 130, 139, 148, 157, 166, 175, 184, 193, 202, 211, 220, 229, 238, 247] : List Nat).map fun w => some (out0x4xc0 (.ofNat w)) := by kernel_rfl
theorem out0x4xg1 (w : Int) : runG outX 5000 [1, 2, 16, 17, 20, 23, 26, 29, 32, 35, 37, 38, 39, 40, 41, 42, 43, 44, 45, 46, 47, 48, 49, 50, 51, 52, 55, 115, 117, 124, 125, 147, 148, 149] (out0x4xc0 w) = some (out0x4xc1 w) := by kernel_rfl
theorem out0x4xg2 (w : Int) : runG outX 1366 [1, 2, 16, 17, 20, 23, 26, 29, 32, 35, 37, 38, 39, 40, 41, 42, 43, 44, 45, 46, 47, 48] (out0x4xc1 w) = some (out0x4xc2 w) := by kernel_rfl
theorem out0x4x1x0xs : (([4, 13, 22, 31, 40, 49, 58, 67, 76, 85, 94, 103, 112, 121, 130, 139, 148, 157, 166, 175, 184, 193, 202, 211, 220, 229, 238, 247] : List Nat).map fun w => runF outX 3 [86] (out0x4xc2 (.ofNat w))) = ([4, 13, 22, 31, 40, 49, 58, 67, 76, 85, 94, 103, 112, 121, 130, 139, 148, 157, 166, 175, 184, 193, 202, 211, 220, 229, 238, 247] : List Nat).map fun w => some (out0x4x1x0xc0 (.ofNat w)) := by kernel_rfl
theorem out0x4x1x0xg1 (w : Int) : runG outX 2414 [1, 2, 16, 17, 20, 23, 26, 29, 32, 35, 37, 38, 39, 40, 41, 42, 43, 44, 45, 46, 47, 48] (out0x4x1x0xc0 w) = some (out0x4x1x0xc1 w) := by kernel_rfl
theorem out0x5xs : (([5, 14, 23, 32, 41, 50, 59, 68, 77, 86, 95, 104, 113, 122, 131, 140, 149, 158, 167, 176, 185, 194, 203, 212, 221, 230, 239, 248] : List Nat).map fun w => runF outX 2 [25] (outc1 (.ofNat w))) = ([5, 14, 23, 32, 41, 50, 59, 68, 77, 86, 95, 104, 113, 122, 131, 140, 149, 158, 167, 176, 185, 194, 203, 212, 221, 230, 239, 248] : List Nat).map fun w => some (out0x5xc0 (.ofNat w)) := by kernel_rfl
theorem out0x5xg1 (w : Int) : runG outX 5000 [1, 2, 16, 17, 20, 23, 26, 29, 32, 35, 37, 38, 39, 40, 41, 42, 43, 44, 45, 46, 47, 48, 49, 50, 51, 52, 53, 56, 116, 118, 125, 126, 148, 149, 150] (out0x5xc0 w) = some (out0x5xc1 w) := by kernel_rfl
end Go.Ideal
