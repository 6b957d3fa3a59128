/-
  Part of the proof: the machine that runs a program by fixed orders, and that each of its runs is a run of the model; or a run of it in parts. No conditions.
-/
import Derived.Test.YtdlfppandkdjfaaGreatDoorOutD
set_option maxRecDepth 1000000
namespace Go.Ideal
open Go.Proofs

theorem out0x7xs : (([7, 16, 25, 34, 43, 52, 61, 70, 79, 88, 97, 106, 115, 124, 133, 142, 151, 160, 169, 178, 187, 196, 205, 214, 223, 232, 241, 250] : List Nat).map fun w => runF outX 2 [41] (outc1 (.ofNat w))) = ([7, 16, 25, 34, 43, 52, 61, 70, 79, 88, 97, 106, 115, 124, 133, 142, 151, 160, 169, 178, 187, 196, 205, 214, 223, 232, 241, 250] : List Nat).map fun w => some (out0x7xc0 (.ofNat w)) := by kernel_rfl
theorem out0x7xg1 (w : Int) : runG outX 2196 [0, 1, 15, 16, 19, 22, 25, 28, 31, 34, 36, 37, 38, 39, 40, 41, 42, 43, 44, 45, 46, 47, 48, 49, 50, 51, 52, 53, 54] (out0x7xc0 w) = some (out0x7xc1 w) := by kernel_rfl
theorem out0x8xs : (([8, 17, 26, 35, 44, 53, 62, 71, 80, 89, 98, 107, 116, 125, 134, 143, 152, 161, 170, 179, 188, 197, 206, 215, 224, 233, 242, 251] : List Nat).map fun w => runF outX 2 [41] (outc1 (.ofNat w))) = ([8, 17, 26, 35, 44, 53, 62, 71, 80, 89, 98, 107, 116, 125, 134, 143, 152, 161, 170, 179, 188, 197, 206, 215, 224, 233, 242, 251] : List Nat).map fun w => some (out0x8xc0 (.ofNat w)) := by kernel_rfl
theorem out0x8xg1 (w : Int) : runG outX 1485 [0, 1, 15, 16, 19, 22, 25, 28, 31, 34, 36, 37, 38, 39, 40, 41, 42, 43, 44, 45, 46, 47, 48, 49, 50, 51] (out0x8xc0 w) = some (out0x8xc1 w) := by kernel_rfl
end Go.Ideal
