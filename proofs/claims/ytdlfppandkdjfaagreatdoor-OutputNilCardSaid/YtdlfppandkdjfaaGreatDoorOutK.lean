/-
  Part of the proof: the machine that runs a program by fixed orders, and that each of its runs is a run of the model; or a run of it in parts. No conditions.
-/
import Derived.Test.YtdlfppandkdjfaaGreatDoorOutR1
import Derived.Test.YtdlfppandkdjfaaGreatDoorOutR2
import Derived.Test.YtdlfppandkdjfaaGreatDoorOutR3
set_option maxRecDepth 1000000
namespace Go.Ideal
open Go.Proofs

theorem out0x0xleaf : ∀ w ∈ [0, 9, 18, 27, 36, 45, 54, 63, 72, 81, 90, 99, 108, 117, 126, 135, 144, 153, 162, 171, 180, 189, 198, 207, 216, 225, 234, 243, 252], ∃ c' H', Goes outX (outc0 (.ofNat w)) c' ∧ doneF outX 3 c' = some ((.bool true), H') := fun w hw => ⟨out0x0xc1 (.ofNat w), (out0x0xc1 (.ofNat w)).H, Goes.trans (Goes.runG (outg1 _)) (Goes.trans (Goes.runF (List.map_inj_left.1 out0x0xs _ hw)) ((Goes.runG (out0x0xg1 _)))), by kernel_rfl⟩
theorem out0x1xleaf : ∀ w ∈ [1, 10, 19, 28, 37, 46, 55, 64, 73, 82, 91, 100, 109, 118, 127, 136, 145, 154, 163, 172, 181, 190, 199, 208, 217, 226, 235, 244, 253], ∃ c' H', Goes outX (outc0 (.ofNat w)) c' ∧ doneF outX 3 c' = some ((.bool true), H') := fun w hw => ⟨out0x1xc1 (.ofNat w), (out0x1xc1 (.ofNat w)).H, Goes.trans (Goes.runG (outg1 _)) (Goes.trans (Goes.runF (List.map_inj_left.1 out0x1xs _ hw)) ((Goes.runG (out0x1xg1 _)))), by kernel_rfl⟩
theorem out0x2xleaf : ∀ w ∈ [2, 11, 20, 29, 38, 47, 56, 65, 74, 83, 92, 101, 110, 119, 128, 137, 146, 155, 164, 173, 182, 191, 200, 209, 218, 227, 236, 245, 254], ∃ c' H', Goes outX (outc0 (.ofNat w)) c' ∧ doneF outX 3 c' = some ((.bool true), H') := fun w hw => ⟨out0x2xc1 (.ofNat w), (out0x2xc1 (.ofNat w)).H, Goes.trans (Goes.runG (outg1 _)) (Goes.trans (Goes.runF (List.map_inj_left.1 out0x2xs _ hw)) ((Goes.runG (out0x2xg1 _)))), by kernel_rfl⟩
theorem out0x3xleaf : ∀ w ∈ [3, 12, 21, 30, 39, 48, 57, 66, 75, 84, 93, 102, 111, 120, 129, 138, 147, 156, 165, 174, 183, 192, 201, 210, 219, 228, 237, 246, 255], ∃ c' H', Goes outX (outc0 (.ofNat w)) c' ∧ doneF outX 3 c' = some ((.bool true), H') := fun w hw => ⟨out0x3xc1 (.ofNat w), (out0x3xc1 (.ofNat w)).H, Goes.trans (Goes.runG (outg1 _)) (Goes.trans (Goes.runF (List.map_inj_left.1 out0x3xs _ hw)) ((Goes.runG (out0x3xg1 _)))), by kernel_rfl⟩
theorem out0x4xleaf : ∀ w ∈ [4, 13, 22, 31, 40, 49, 58, 67, 76, 85, 94, 103, 112, 121, 130, 139, 148, 157, 166, 175, 184, 193, 202, 211, 220, 229, 238, 247], ∃ c' H', Goes outX (outc0 (.ofNat w)) c' ∧ doneF outX 3 c' = some ((.bool true), H') := fun w hw => ⟨out0x4xc1 (.ofNat w), (out0x4xc1 (.ofNat w)).H, Goes.trans (Goes.runG (outg1 _)) (Goes.trans (Goes.runF (List.map_inj_left.1 out0x4xs _ hw)) ((Goes.runG (out0x4xg1 _)))), by kernel_rfl⟩
theorem out0x5xleaf : ∀ w ∈ [5, 14, 23, 32, 41, 50, 59, 68, 77, 86, 95, 104, 113, 122, 131, 140, 149, 158, 167, 176, 185, 194, 203, 212, 221, 230, 239, 248], ∃ c' H', Goes outX (outc0 (.ofNat w)) c' ∧ doneF outX 3 c' = some ((.bool true), H') := fun w hw => ⟨out0x5xc1 (.ofNat w), (out0x5xc1 (.ofNat w)).H, Goes.trans (Goes.runG (outg1 _)) (Goes.trans (Goes.runF (List.map_inj_left.1 out0x5xs _ hw)) ((Goes.runG (out0x5xg1 _)))), by kernel_rfl⟩
theorem out0x6xleaf : ∀ w ∈ [6, 15, 24, 33, 42, 51, 60, 69, 78, 87, 96, 105, 114, 123, 132, 141, 150, 159, 168, 177, 186, 195, 204, 213, 222, 231, 240, 249], ∃ c' H', Goes outX (outc0 (.ofNat w)) c' ∧ doneF outX 3 c' = some ((.bool true), H') := fun w hw => ⟨out0x6xc1 (.ofNat w), (out0x6xc1 (.ofNat w)).H, Goes.trans (Goes.runG (outg1 _)) (Goes.trans (Goes.runF (List.map_inj_left.1 out0x6xs _ hw)) ((Goes.runG (out0x6xg1 _)))), by kernel_rfl⟩
theorem out0x7xleaf : ∀ w ∈ [7, 16, 25, 34, 43, 52, 61, 70, 79, 88, 97, 106, 115, 124, 133, 142, 151, 160, 169, 178, 187, 196, 205, 214, 223, 232, 241, 250], ∃ c' H', Goes outX (outc0 (.ofNat w)) c' ∧ doneF outX 3 c' = some ((.bool true), H') := fun w hw => ⟨out0x7xc1 (.ofNat w), (out0x7xc1 (.ofNat w)).H, Goes.trans (Goes.runG (outg1 _)) (Goes.trans (Goes.runF (List.map_inj_left.1 out0x7xs _ hw)) ((Goes.runG (out0x7xg1 _)))), by kernel_rfl⟩
theorem out0x8xleaf : ∀ w ∈ [8, 17, 26, 35, 44, 53, 62, 71, 80, 89, 98, 107, 116, 125, 134, 143, 152, 161, 170, 179, 188, 197, 206, 215, 224, 233, 242, 251], ∃ c' H', Goes outX (outc0 (.ofNat w)) c' ∧ doneF outX 3 c' = some ((.bool true), H') := fun w hw => ⟨out0x8xc1 (.ofNat w), (out0x8xc1 (.ofNat w)).H, Goes.trans (Goes.runG (outg1 _)) (Goes.trans (Goes.runF (List.map_inj_left.1 out0x8xs _ hw)) ((Goes.runG (out0x8xg1 _)))), by kernel_rfl⟩
theorem outCases : ∀ w : _root_.Fin 256, w.val ∈ ([0, 9, 18, 27, 36, 45, 54, 63, 72, 81, 90, 99, 108, 117, 126, 135, 144, 153, 162, 171, 180, 189, 198, 207, 216, 225, 234, 243, 252] : List Nat) ∨ w.val ∈ ([1, 10, 19, 28, 37, 46, 55, 64, 73, 82, 91, 100, 109, 118, 127, 136, 145, 154, 163, 172, 181, 190, 199, 208, 217, 226, 235, 244, 253] : List Nat) ∨ w.val ∈ ([2, 11, 20, 29, 38, 47, 56, 65, 74, 83, 92, 101, 110, 119, 128, 137, 146, 155, 164, 173, 182, 191, 200, 209, 218, 227, 236, 245, 254] : List Nat) ∨ w.val ∈ ([3, 12, 21, 30, 39, 48, 57, 66, 75, 84, 93, 102, 111, 120, 129, 138, 147, 156, 165, 174, 183, 192, 201, 210, 219, 228, 237, 246, 255] : List Nat) ∨ w.val ∈ ([4, 13, 22, 31, 40, 49, 58, 67, 76, 85, 94, 103, 112, 121, 130, 139, 148, 157, 166, 175, 184, 193, 202, 211, 220, 229, 238, 247] : List Nat) ∨ w.val ∈ ([5, 14, 23, 32, 41, 50, 59, 68, 77, 86, 95, 104, 113, 122, 131, 140, 149, 158, 167, 176, 185, 194, 203, 212, 221, 230, 239, 248] : List Nat) ∨ w.val ∈ ([6, 15, 24, 33, 42, 51, 60, 69, 78, 87, 96, 105, 114, 123, 132, 141, 150, 159, 168, 177, 186, 195, 204, 213, 222, 231, 240, 249] : List Nat) ∨ w.val ∈ ([7, 16, 25, 34, 43, 52, 61, 70, 79, 88, 97, 106, 115, 124, 133, 142, 151, 160, 169, 178, 187, 196, 205, 214, 223, 232, 241, 250] : List Nat) ∨ w.val ∈ ([8, 17, 26, 35, 44, 53, 62, 71, 80, 89, 98, 107, 116, 125, 134, 143, 152, 161, 170, 179, 188, 197, 206, 215, 224, 233, 242, 251] : List Nat) := by decide +kernel
theorem outAll (w : Nat) (h : w < 256) : ∃ c' H', Goes outX (outc0 (.ofNat w)) c' ∧ doneF outX 3 c' = some ((.bool true), H') := by
  rcases outCases ⟨w, h⟩ with hw | hw | hw | hw | hw | hw | hw | hw | hw
  · exact out0x0xleaf w hw
  · exact out0x1xleaf w hw
  · exact out0x2xleaf w hw
  · exact out0x3xleaf w hw
  · exact out0x4xleaf w hw
  · exact out0x5xleaf w hw
  · exact out0x6xleaf w hw
  · exact out0x7xleaf w hw
  · exact out0x8xleaf w hw
theorem outKsOk : ∀ k ∈ outKs, KnownOk Tryz.prog outLaid k :=
  fun k hk => by
    simp only [outKs, List.mem_cons, List.not_mem_nil, or_false] at hk
    rcases hk with rfl | rfl
    · exact tabKnown
    · exact wrkKnown
end Go.Ideal
