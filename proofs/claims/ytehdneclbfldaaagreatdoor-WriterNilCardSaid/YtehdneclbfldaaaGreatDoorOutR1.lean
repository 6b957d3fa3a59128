/-
  Part of the proof: the machine that runs a program by fixed orders, and that each of its runs is a run of the model; or a run of it in parts. No conditions.
-/
import Derived.Test.YtehdneclbfldaaaGreatDoorOutD
set_option maxRecDepth 1000000
namespace Go.Ideal
open Go.Proofs

theorem outg1 (w : Int) : runG outX 2064 [1, 2, 16, 17, 20, 23, 26, 29, 32, 35, 37, 38, 39, 40, 41, 42, 43, 44, 45, 46, 47, 48] (outc0 w) = some (outc1 w) := by kernel_rfl
theorem out0x0xs : (([0, 9, 18, 27, 36, 45, 54, 63, 72, 81, 90, 99, 108, 117, 126, 135, 144, 153, 162, 171, 180, 189, 198, 207, 216, 225, 234, 243, 252] : List Nat).map fun w => runF outX 2 [25] (outc1 (.ofNat w))) = ([0, 9, 18, 27, 36, 45, 54, 63, 72, 81, 90, 99, 108, 117, 126, 135, 144, 153, 162, 171, 180, 189, 198, 207, 216, 225, 234, 243, 252] : List Nat).map fun w => some (out0x0xc0 (.ofNat w)) := by kernel_rfl
theorem out0x0xg1 (w : Int) : runG outX 5000 [1, 2, 16, 17, 20, 23, 26, 29, 32, 35, 37, 38, 39, 40, 41, 42, 43, 44, 45, 46, 47, 48, 49, 50, 51, 52, 55, 115, 117, 124, 125, 147, 148, 149] (out0x0xc0 w) = some (out0x0xc1 w) := by kernel_rfl
theorem out0x0xg2 (w : Int) : runG outX 1299 [1, 2, 16, 17, 20, 23, 26, 29, 32, 35, 37, 38, 39, 40, 41, 42, 43, 44, 45, 46, 47, 48] (out0x0xc1 w) = some (out0x0xc2 w) := by kernel_rfl
theorem out0x0x1x0xs : (([0, 9, 18, 27, 36, 45, 54, 63, 72, 81, 90, 99, 108, 117, 126, 135, 144, 153, 162, 171, 180, 189, 198, 207, 216, 225, 234, 243, 252] : List Nat).map fun w => runF outX 3 [86] (out0x0xc2 (.ofNat w))) = ([0, 9, 18, 27, 36, 45, 54, 63, 72, 81, 90, 99, 108, 117, 126, 135, 144, 153, 162, 171, 180, 189, 198, 207, 216, 225, 234, 243, 252] : List Nat).map fun w => some (out0x0x1x0xc0 (.ofNat w)) := by kernel_rfl
theorem out0x0x1x0xg1 (w : Int) : runG outX 430 [1, 2, 16, 17, 20, 23, 26, 29, 32, 35, 37, 38, 39, 40, 41, 42, 43, 44, 45, 46, 47, 48] (out0x0x1x0xc0 w) = some (out0x0x1x0xc1 w) := by kernel_rfl
theorem out0x1xs : (([1, 10, 19, 28, 37, 46, 55, 64, 73, 82, 91, 100, 109, 118, 127, 136, 145, 154, 163, 172, 181, 190, 199, 208, 217, 226, 235, 244, 253] : List Nat).map fun w => runF outX 2 [25] (outc1 (.ofNat w))) = ([1, 10, 19, 28, 37, 46, 55, 64, 73, 82, 91, 100, 109, 118, 127, 136, 145, 154, 163, 172, 181, 190, 199, 208, 217, 226, 235, 244, 253] : List Nat).map fun w => some (out0x1xc0 (.ofNat w)) := by kernel_rfl
theorem out0x1xg1 (w : Int) : runG outX 5000 [1, 2, 16, 17, 20, 23, 26, 29, 32, 35, 37, 38, 39, 40, 41, 42, 43, 44, 45, 46, 47, 48, 49, 50, 51, 52, 53, 56, 116, 118, 125, 126, 148, 149, 150] (out0x1xc0 w) = some (out0x1xc1 w) := by kernel_rfl
theorem out0x1xg2 (w : Int) : runG outX 1307 [1, 2, 16, 17, 20, 23, 26, 29, 32, 35, 37, 38, 39, 40, 41, 42, 43, 44, 45, 46, 47, 48, 49] (out0x1xc1 w) = some (out0x1xc2 w) := by kernel_rfl
theorem out0x1x1x0xs : (([1, 10, 19, 28, 37, 46, 55, 64, 73, 82, 91, 100, 109, 118, 127, 136, 145, 154, 163, 172, 181, 190, 199, 208, 217, 226, 235, 244, 253] : List Nat).map fun w => runF outX 3 [86] (out0x1xc2 (.ofNat w))) = ([1, 10, 19, 28, 37, 46, 55, 64, 73, 82, 91, 100, 109, 118, 127, 136, 145, 154, 163, 172, 181, 190, 199, 208, 217, 226, 235, 244, 253] : List Nat).map fun w => some (out0x1x1x0xc0 (.ofNat w)) := by kernel_rfl
theorem out0x1x1x0xg1 (w : Int) : runG outX 430 [1, 2, 16, 17, 20, 23, 26, 29, 32, 35, 37, 38, 39, 40, 41, 42, 43, 44, 45, 46, 47, 48, 49] (out0x1x1x0xc0 w) = some (out0x1x1x0xc1 w) := by kernel_rfl
theorem out0x2xs : (([2, 11, 20, 29, 38, 47, 56, 65, 74, 83, 92, 101, 110, 119, 128, 137, 146, 155, 164, 173, 182, 191, 200, 209, 218, 227, 236, 245, 254] : List Nat).map fun w => runF outX 2 [25] (outc1 (.ofNat w))) = ([2, 11, 20, 29, 38, 47, 56, 65, 74, 83, 92, 101, 110, 119, 128, 137, 146, 155, 164, 173, 182, 191, 200, 209, 218, 227, 236, 245, 254] : List Nat).map fun w => some (out0x2xc0 (.ofNat w)) := by kernel_rfl
theorem out0x2xg1 (w : Int) : runG outX 5000 [1, 2, 16, 17, 20, 23, 26, 29, 32, 35, 37, 38, 39, 40, 41, 42, 43, 44, 45, 46, 47, 48, 49, 50, 51, 52, 55, 115, 117, 124, 125, 147, 148, 149] (out0x2xc0 w) = some (out0x2xc1 w) := by kernel_rfl
theorem out0x2xg2 (w : Int) : runG outX 1303 [1, 2, 16, 17, 20, 23, 26, 29, 32, 35, 37, 38, 39, 40, 41, 42, 43, 44, 45, 46, 47, 48] (out0x2xc1 w) = some (out0x2xc2 w) := by kernel_rfl
end Go.Ideal
