/-
  Part of the proof: the machine that runs a program by fixed orders, and that each of its runs is a run of the model; or a run of it in parts. No conditions.
-/
import Derived.Test.YtihjcloanpfkaaaGreatDoorIdVCs
import Derived.Test.YtihjcloanpfkaaaGreatDoorAbr
import Derived.Test.YtihjcloanpfkaaaGreatDoorProg
import Derived.Test.YtihjcloanpfkaaaGreatDoorWrkK
set_option maxRecDepth 1000000
namespace Go.Ideal
open Go.Proofs
noncomputable def st (f : FuncId) (n : Nat) (args : List Value) (H : IHeap) : Cfg := startC f (fillTmps 0 args .leaf) n (pcOf Tryz.prog f []) H
noncomputable def hp0 : IHeap := ⟨.leaf, 20⟩
noncomputable def X0 : Ctx := ctxI Tryz.prog tabLaid []
theorem vc_dig0 (Q : Value → List (Option IObj) → Prop) : VC X0 36 [] Q 3000 (st 36 16 [.int .u64 0] hp0) = (
 (Q (.string (ByteArray.extract { data := #[48, 49, 50, 51, 52, 53, 54, 55, 56, 57, 97, 98, 99, 100, 101, 102] } 0 1)) [])) := by kernel_rfl
theorem vc_ito0 (Q : Value → List (Option IObj) → Prop) : VC X0 32 [] Q 3000 (st 32 5 [.int .i64 0] hp0) = (
 (Q (.string (ByteArray.extract { data := #[48, 49, 50, 51, 52, 53, 54, 55, 56, 57, 97, 98, 99, 100, 101, 102, 103, 104, 105, 106, 107, 108, 109, 110, 111, 112, 113, 114, 115, 116, 117, 118, 119, 120, 121, 122] } 0 1)) [])) := by kernel_rfl
theorem vc_dig1 (Q : Value → List (Option IObj) → Prop) : VC X0 36 [] Q 3000 (st 36 16 [.int .u64 1] hp0) = (
 (Q (.string (ByteArray.extract { data := #[48, 49, 50, 51, 52, 53, 54, 55, 56, 57, 97, 98, 99, 100, 101, 102] } 1 2)) [])) := by kernel_rfl
theorem vc_ito1 (Q : Value → List (Option IObj) → Prop) : VC X0 32 [] Q 3000 (st 32 5 [.int .i64 1] hp0) = (
 (Q (.string (ByteArray.extract { data := #[48, 49, 50, 51, 52, 53, 54, 55, 56, 57, 97, 98, 99, 100, 101, 102, 103, 104, 105, 106, 107, 108, 109, 110, 111, 112, 113, 114, 115, 116, 117, 118, 119, 120, 121, 122] } 1 2)) [])) := by kernel_rfl
theorem vc_dig2 (Q : Value → List (Option IObj) → Prop) : VC X0 36 [] Q 3000 (st 36 16 [.int .u64 2] hp0) = (
 (Q (.string (ByteArray.extract { data := #[48, 49, 50, 51, 52, 53, 54, 55, 56, 57, 97, 98, 99, 100, 101, 102] } 2 3)) [])) := by kernel_rfl
theorem vc_ito2 (Q : Value → List (Option IObj) → Prop) : VC X0 32 [] Q 3000 (st 32 5 [.int .i64 2] hp0) = (
 (Q (.string (ByteArray.extract { data := #[48, 49, 50, 51, 52, 53, 54, 55, 56, 57, 97, 98, 99, 100, 101, 102, 103, 104, 105, 106, 107, 108, 109, 110, 111, 112, 113, 114, 115, 116, 117, 118, 119, 120, 121, 122] } 2 3)) [])) := by kernel_rfl
theorem vc_dig3 (Q : Value → List (Option IObj) → Prop) : VC X0 36 [] Q 3000 (st 36 16 [.int .u64 3] hp0) = (
 (Q (.string (ByteArray.extract { data := #[48, 49, 50, 51, 52, 53, 54, 55, 56, 57, 97, 98, 99, 100, 101, 102] } 3 4)) [])) := by kernel_rfl
theorem vc_ito3 (Q : Value → List (Option IObj) → Prop) : VC X0 32 [] Q 3000 (st 32 5 [.int .i64 3] hp0) = (
 (Q (.string (ByteArray.extract { data := #[48, 49, 50, 51, 52, 53, 54, 55, 56, 57, 97, 98, 99, 100, 101, 102, 103, 104, 105, 106, 107, 108, 109, 110, 111, 112, 113, 114, 115, 116, 117, 118, 119, 120, 121, 122] } 3 4)) [])) := by kernel_rfl
theorem vc_dig4 (Q : Value → List (Option IObj) → Prop) : VC X0 36 [] Q 3000 (st 36 16 [.int .u64 4] hp0) = (
 (Q (.string (ByteArray.extract { data := #[48, 49, 50, 51, 52, 53, 54, 55, 56, 57, 97, 98, 99, 100, 101, 102] } 4 5)) [])) := by kernel_rfl
theorem vc_ito4 (Q : Value → List (Option IObj) → Prop) : VC X0 32 [] Q 3000 (st 32 5 [.int .i64 4] hp0) = (
 (Q (.string (ByteArray.extract { data := #[48, 49, 50, 51, 52, 53, 54, 55, 56, 57, 97, 98, 99, 100, 101, 102, 103, 104, 105, 106, 107, 108, 109, 110, 111, 112, 113, 114, 115, 116, 117, 118, 119, 120, 121, 122] } 4 5)) [])) := by kernel_rfl
theorem vc_dig5 (Q : Value → List (Option IObj) → Prop) : VC X0 36 [] Q 3000 (st 36 16 [.int .u64 5] hp0) = (
 (Q (.string (ByteArray.extract { data := #[48, 49, 50, 51, 52, 53, 54, 55, 56, 57, 97, 98, 99, 100, 101, 102] } 5 6)) [])) := by kernel_rfl
theorem vc_ito5 (Q : Value → List (Option IObj) → Prop) : VC X0 32 [] Q 3000 (st 32 5 [.int .i64 5] hp0) = (
 (Q (.string (ByteArray.extract { data := #[48, 49, 50, 51, 52, 53, 54, 55, 56, 57, 97, 98, 99, 100, 101, 102, 103, 104, 105, 106, 107, 108, 109, 110, 111, 112, 113, 114, 115, 116, 117, 118, 119, 120, 121, 122] } 5 6)) [])) := by kernel_rfl
theorem vc_dig6 (Q : Value → List (Option IObj) → Prop) : VC X0 36 [] Q 3000 (st 36 16 [.int .u64 6] hp0) = (
 (Q (.string (ByteArray.extract { data := #[48, 49, 50, 51, 52, 53, 54, 55, 56, 57, 97, 98, 99, 100, 101, 102] } 6 7)) [])) := by kernel_rfl
theorem vc_ito6 (Q : Value → List (Option IObj) → Prop) : VC X0 32 [] Q 3000 (st 32 5 [.int .i64 6] hp0) = (
 (Q (.string (ByteArray.extract { data := #[48, 49, 50, 51, 52, 53, 54, 55, 56, 57, 97, 98, 99, 100, 101, 102, 103, 104, 105, 106, 107, 108, 109, 110, 111, 112, 113, 114, 115, 116, 117, 118, 119, 120, 121, 122] } 6 7)) [])) := by kernel_rfl
theorem vc_dig7 (Q : Value → List (Option IObj) → Prop) : VC X0 36 [] Q 3000 (st 36 16 [.int .u64 7] hp0) = (
 (Q (.string (ByteArray.extract { data := #[48, 49, 50, 51, 52, 53, 54, 55, 56, 57, 97, 98, 99, 100, 101, 102] } 7 8)) [])) := by kernel_rfl
theorem vc_ito7 (Q : Value → List (Option IObj) → Prop) : VC X0 32 [] Q 3000 (st 32 5 [.int .i64 7] hp0) = (
 (Q (.string (ByteArray.extract { data := #[48, 49, 50, 51, 52, 53, 54, 55, 56, 57, 97, 98, 99, 100, 101, 102, 103, 104, 105, 106, 107, 108, 109, 110, 111, 112, 113, 114, 115, 116, 117, 118, 119, 120, 121, 122] } 7 8)) [])) := by kernel_rfl
theorem vc_dig8 (Q : Value → List (Option IObj) → Prop) : VC X0 36 [] Q 3000 (st 36 16 [.int .u64 8] hp0) = (
 (Q (.string (ByteArray.extract { data := #[48, 49, 50, 51, 52, 53, 54, 55, 56, 57, 97, 98, 99, 100, 101, 102] } 8 9)) [])) := by kernel_rfl
theorem vc_ito8 (Q : Value → List (Option IObj) → Prop) : VC X0 32 [] Q 3000 (st 32 5 [.int .i64 8] hp0) = (
 (Q (.string (ByteArray.extract { data := #[48, 49, 50, 51, 52, 53, 54, 55, 56, 57, 97, 98, 99, 100, 101, 102, 103, 104, 105, 106, 107, 108, 109, 110, 111, 112, 113, 114, 115, 116, 117, 118, 119, 120, 121, 122] } 8 9)) [])) := by kernel_rfl
theorem vc_dig9 (Q : Value → List (Option IObj) → Prop) : VC X0 36 [] Q 3000 (st 36 16 [.int .u64 9] hp0) = (
 (Q (.string (ByteArray.extract { data := #[48, 49, 50, 51, 52, 53, 54, 55, 56, 57, 97, 98, 99, 100, 101, 102] } 9 10)) [])) := by kernel_rfl
theorem vc_ito9 (Q : Value → List (Option IObj) → Prop) : VC X0 32 [] Q 3000 (st 32 5 [.int .i64 9] hp0) = (
 (Q (.string (ByteArray.extract { data := #[48, 49, 50, 51, 52, 53, 54, 55, 56, 57, 97, 98, 99, 100, 101, 102, 103, 104, 105, 106, 107, 108, 109, 110, 111, 112, 113, 114, 115, 116, 117, 118, 119, 120, 121, 122] } 9 10)) [])) := by kernel_rfl
theorem vc_dig10 (Q : Value → List (Option IObj) → Prop) : VC X0 36 [] Q 3000 (st 36 16 [.int .u64 10] hp0) = (
 (Q (.string (ByteArray.extract { data := #[48, 49, 50, 51, 52, 53, 54, 55, 56, 57, 97, 98, 99, 100, 101, 102] } 1 2 ++ ByteArray.extract { data := #[48, 49, 50, 51, 52, 53, 54, 55, 56, 57, 97, 98, 99, 100, 101, 102] } 0 1)) [])) := by kernel_rfl
theorem vc_ito10 (Q : Value → List (Option IObj) → Prop) : VC X0 32 [] Q 3000 (st 32 5 [.int .i64 10] hp0) = (
 (Q (.string (ByteArray.extract { data := List.toArray (List.append (List.append [48, 48, 48, 49, 48, 50, 48, 51, 48, 52, 48, 53, 48, 54, 48, 55, 48, 56, 48, 57, 49, 48, 49, 49, 49, 50, 49, 51, 49, 52, 49, 53, 49, 54, 49, 55, 49, 56, 49, 57, 50, 48, 50, 49, 50, 50, 50, 51, 50, 52] [50, 53, 50, 54, 50, 55, 50, 56, 50, 57, 51, 48, 51, 49, 51, 50, 51, 51, 51, 52, 51, 53, 51, 54, 51, 55, 51, 56, 51, 57, 52, 48, 52, 49, 52, 50, 52, 51, 52, 52, 52, 53, 52, 54, 52, 55, 52, 56, 52, 57]) (List.append [53, 48, 53, 49, 53, 50, 53, 51, 53, 52, 53, 53, 53, 54, 53, 55, 53, 56, 53, 57, 54, 48, 54, 49, 54, 50, 54, 51, 54, 52, 54, 53, 54, 54, 54, 55, 54, 56, 54, 57, 55, 48, 55, 49, 55, 50, 55, 51, 55, 52] [55, 53, 55, 54, 55, 55, 55, 56, 55, 57, 56, 48, 56, 49, 56, 50, 56, 51, 56, 52, 56, 53, 56, 54, 56, 55, 56, 56, 56, 57, 57, 48, 57, 49, 57, 50, 57, 51, 57, 52, 57, 53, 57, 54, 57, 55, 57, 56, 57, 57])) } 20 22)) [])) := by kernel_rfl
theorem vc_dig11 (Q : Value → List (Option IObj) → Prop) : VC X0 36 [] Q 3000 (st 36 16 [.int .u64 11] hp0) = (
 (Q (.string (ByteArray.extract { data := #[48, 49, 50, 51, 52, 53, 54, 55, 56, 57, 97, 98, 99, 100, 101, 102] } 1 2 ++ ByteArray.extract { data := #[48, 49, 50, 51, 52, 53, 54, 55, 56, 57, 97, 98, 99, 100, 101, 102] } 1 2)) [])) := by kernel_rfl
theorem vc_ito11 (Q : Value → List (Option IObj) → Prop) : VC X0 32 [] Q 3000 (st 32 5 [.int .i64 11] hp0) = (
 (Q (.string (ByteArray.extract { data := List.toArray (List.append (List.append [48, 48, 48, 49, 48, 50, 48, 51, 48, 52, 48, 53, 48, 54, 48, 55, 48, 56, 48, 57, 49, 48, 49, 49, 49, 50, 49, 51, 49, 52, 49, 53, 49, 54, 49, 55, 49, 56, 49, 57, 50, 48, 50, 49, 50, 50, 50, 51, 50, 52] [50, 53, 50, 54, 50, 55, 50, 56, 50, 57, 51, 48, 51, 49, 51, 50, 51, 51, 51, 52, 51, 53, 51, 54, 51, 55, 51, 56, 51, 57, 52, 48, 52, 49, 52, 50, 52, 51, 52, 52, 52, 53, 52, 54, 52, 55, 52, 56, 52, 57]) (List.append [53, 48, 53, 49, 53, 50, 53, 51, 53, 52, 53, 53, 53, 54, 53, 55, 53, 56, 53, 57, 54, 48, 54, 49, 54, 50, 54, 51, 54, 52, 54, 53, 54, 54, 54, 55, 54, 56, 54, 57, 55, 48, 55, 49, 55, 50, 55, 51, 55, 52] [55, 53, 55, 54, 55, 55, 55, 56, 55, 57, 56, 48, 56, 49, 56, 50, 56, 51, 56, 52, 56, 53, 56, 54, 56, 55, 56, 56, 56, 57, 57, 48, 57, 49, 57, 50, 57, 51, 57, 52, 57, 53, 57, 54, 57, 55, 57, 56, 57, 57])) } 22 24)) [])) := by kernel_rfl
theorem vc_dig12 (Q : Value → List (Option IObj) → Prop) : VC X0 36 [] Q 3000 (st 36 16 [.int .u64 12] hp0) = (
 (Q (.string (ByteArray.extract { data := #[48, 49, 50, 51, 52, 53, 54, 55, 56, 57, 97, 98, 99, 100, 101, 102] } 1 2 ++ ByteArray.extract { data := #[48, 49, 50, 51, 52, 53, 54, 55, 56, 57, 97, 98, 99, 100, 101, 102] } 2 3)) [])) := by kernel_rfl
theorem vc_ito12 (Q : Value → List (Option IObj) → Prop) : VC X0 32 [] Q 3000 (st 32 5 [.int .i64 12] hp0) = (
 (Q (.string (ByteArray.extract { data := List.toArray (List.append (List.append [48, 48, 48, 49, 48, 50, 48, 51, 48, 52, 48, 53, 48, 54, 48, 55, 48, 56, 48, 57, 49, 48, 49, 49, 49, 50, 49, 51, 49, 52, 49, 53, 49, 54, 49, 55, 49, 56, 49, 57, 50, 48, 50, 49, 50, 50, 50, 51, 50, 52] [50, 53, 50, 54, 50, 55, 50, 56, 50, 57, 51, 48, 51, 49, 51, 50, 51, 51, 51, 52, 51, 53, 51, 54, 51, 55, 51, 56, 51, 57, 52, 48, 52, 49, 52, 50, 52, 51, 52, 52, 52, 53, 52, 54, 52, 55, 52, 56, 52, 57]) (List.append [53, 48, 53, 49, 53, 50, 53, 51, 53, 52, 53, 53, 53, 54, 53, 55, 53, 56, 53, 57, 54, 48, 54, 49, 54, 50, 54, 51, 54, 52, 54, 53, 54, 54, 54, 55, 54, 56, 54, 57, 55, 48, 55, 49, 55, 50, 55, 51, 55, 52] [55, 53, 55, 54, 55, 55, 55, 56, 55, 57, 56, 48, 56, 49, 56, 50, 56, 51, 56, 52, 56, 53, 56, 54, 56, 55, 56, 56, 56, 57, 57, 48, 57, 49, 57, 50, 57, 51, 57, 52, 57, 53, 57, 54, 57, 55, 57, 56, 57, 57])) } 24 26)) [])) := by kernel_rfl
theorem vc_dig13 (Q : Value → List (Option IObj) → Prop) : VC X0 36 [] Q 3000 (st 36 16 [.int .u64 13] hp0) = (
 (Q (.string (ByteArray.extract { data := #[48, 49, 50, 51, 52, 53, 54, 55, 56, 57, 97, 98, 99, 100, 101, 102] } 1 2 ++ ByteArray.extract { data := #[48, 49, 50, 51, 52, 53, 54, 55, 56, 57, 97, 98, 99, 100, 101, 102] } 3 4)) [])) := by kernel_rfl
theorem vc_ito13 (Q : Value → List (Option IObj) → Prop) : VC X0 32 [] Q 3000 (st 32 5 [.int .i64 13] hp0) = (
 (Q (.string (ByteArray.extract { data := List.toArray (List.append (List.append [48, 48, 48, 49, 48, 50, 48, 51, 48, 52, 48, 53, 48, 54, 48, 55, 48, 56, 48, 57, 49, 48, 49, 49, 49, 50, 49, 51, 49, 52, 49, 53, 49, 54, 49, 55, 49, 56, 49, 57, 50, 48, 50, 49, 50, 50, 50, 51, 50, 52] [50, 53, 50, 54, 50, 55, 50, 56, 50, 57, 51, 48, 51, 49, 51, 50, 51, 51, 51, 52, 51, 53, 51, 54, 51, 55, 51, 56, 51, 57, 52, 48, 52, 49, 52, 50, 52, 51, 52, 52, 52, 53, 52, 54, 52, 55, 52, 56, 52, 57]) (List.append [53, 48, 53, 49, 53, 50, 53, 51, 53, 52, 53, 53, 53, 54, 53, 55, 53, 56, 53, 57, 54, 48, 54, 49, 54, 50, 54, 51, 54, 52, 54, 53, 54, 54, 54, 55, 54, 56, 54, 57, 55, 48, 55, 49, 55, 50, 55, 51, 55, 52] [55, 53, 55, 54, 55, 55, 55, 56, 55, 57, 56, 48, 56, 49, 56, 50, 56, 51, 56, 52, 56, 53, 56, 54, 56, 55, 56, 56, 56, 57, 57, 48, 57, 49, 57, 50, 57, 51, 57, 52, 57, 53, 57, 54, 57, 55, 57, 56, 57, 57])) } 26 28)) [])) := by kernel_rfl
theorem vc_dig14 (Q : Value → List (Option IObj) → Prop) : VC X0 36 [] Q 3000 (st 36 16 [.int .u64 14] hp0) = (
 (Q (.string (ByteArray.extract { data := #[48, 49, 50, 51, 52, 53, 54, 55, 56, 57, 97, 98, 99, 100, 101, 102] } 1 2 ++ ByteArray.extract { data := #[48, 49, 50, 51, 52, 53, 54, 55, 56, 57, 97, 98, 99, 100, 101, 102] } 4 5)) [])) := by kernel_rfl
theorem vc_ito14 (Q : Value → List (Option IObj) → Prop) : VC X0 32 [] Q 3000 (st 32 5 [.int .i64 14] hp0) = (
 (Q (.string (ByteArray.extract { data := List.toArray (List.append (List.append [48, 48, 48, 49, 48, 50, 48, 51, 48, 52, 48, 53, 48, 54, 48, 55, 48, 56, 48, 57, 49, 48, 49, 49, 49, 50, 49, 51, 49, 52, 49, 53, 49, 54, 49, 55, 49, 56, 49, 57, 50, 48, 50, 49, 50, 50, 50, 51, 50, 52] [50, 53, 50, 54, 50, 55, 50, 56, 50, 57, 51, 48, 51, 49, 51, 50, 51, 51, 51, 52, 51, 53, 51, 54, 51, 55, 51, 56, 51, 57, 52, 48, 52, 49, 52, 50, 52, 51, 52, 52, 52, 53, 52, 54, 52, 55, 52, 56, 52, 57]) (List.append [53, 48, 53, 49, 53, 50, 53, 51, 53, 52, 53, 53, 53, 54, 53, 55, 53, 56, 53, 57, 54, 48, 54, 49, 54, 50, 54, 51, 54, 52, 54, 53, 54, 54, 54, 55, 54, 56, 54, 57, 55, 48, 55, 49, 55, 50, 55, 51, 55, 52] [55, 53, 55, 54, 55, 55, 55, 56, 55, 57, 56, 48, 56, 49, 56, 50, 56, 51, 56, 52, 56, 53, 56, 54, 56, 55, 56, 56, 56, 57, 57, 48, 57, 49, 57, 50, 57, 51, 57, 52, 57, 53, 57, 54, 57, 55, 57, 56, 57, 57])) } 28 30)) [])) := by kernel_rfl
theorem vc_dig15 (Q : Value → List (Option IObj) → Prop) : VC X0 36 [] Q 3000 (st 36 16 [.int .u64 15] hp0) = (
 (Q (.string (ByteArray.extract { data := #[48, 49, 50, 51, 52, 53, 54, 55, 56, 57, 97, 98, 99, 100, 101, 102] } 1 2 ++ ByteArray.extract { data := #[48, 49, 50, 51, 52, 53, 54, 55, 56, 57, 97, 98, 99, 100, 101, 102] } 5 6)) [])) := by kernel_rfl
theorem vc_ito15 (Q : Value → List (Option IObj) → Prop) : VC X0 32 [] Q 3000 (st 32 5 [.int .i64 15] hp0) = (
 (Q (.string (ByteArray.extract { data := List.toArray (List.append (List.append [48, 48, 48, 49, 48, 50, 48, 51, 48, 52, 48, 53, 48, 54, 48, 55, 48, 56, 48, 57, 49, 48, 49, 49, 49, 50, 49, 51, 49, 52, 49, 53, 49, 54, 49, 55, 49, 56, 49, 57, 50, 48, 50, 49, 50, 50, 50, 51, 50, 52] [50, 53, 50, 54, 50, 55, 50, 56, 50, 57, 51, 48, 51, 49, 51, 50, 51, 51, 51, 52, 51, 53, 51, 54, 51, 55, 51, 56, 51, 57, 52, 48, 52, 49, 52, 50, 52, 51, 52, 52, 52, 53, 52, 54, 52, 55, 52, 56, 52, 57]) (List.append [53, 48, 53, 49, 53, 50, 53, 51, 53, 52, 53, 53, 53, 54, 53, 55, 53, 56, 53, 57, 54, 48, 54, 49, 54, 50, 54, 51, 54, 52, 54, 53, 54, 54, 54, 55, 54, 56, 54, 57, 55, 48, 55, 49, 55, 50, 55, 51, 55, 52] [55, 53, 55, 54, 55, 55, 55, 56, 55, 57, 56, 48, 56, 49, 56, 50, 56, 51, 56, 52, 56, 53, 56, 54, 56, 55, 56, 56, 56, 57, 57, 48, 57, 49, 57, 50, 57, 51, 57, 52, 57, 53, 57, 54, 57, 55, 57, 56, 57, 57])) } 30 32)) [])) := by kernel_rfl
theorem vc_dig16 (Q : Value → List (Option IObj) → Prop) : VC X0 36 [] Q 3000 (st 36 16 [.int .u64 16] hp0) = (
 (Q (.string (ByteArray.extract { data := #[48, 49, 50, 51, 52, 53, 54, 55, 56, 57, 97, 98, 99, 100, 101, 102] } 1 2 ++ ByteArray.extract { data := #[48, 49, 50, 51, 52, 53, 54, 55, 56, 57, 97, 98, 99, 100, 101, 102] } 6 7)) [])) := by kernel_rfl
theorem vc_ito16 (Q : Value → List (Option IObj) → Prop) : VC X0 32 [] Q 3000 (st 32 5 [.int .i64 16] hp0) = (
 (Q (.string (ByteArray.extract { data := List.toArray (List.append (List.append [48, 48, 48, 49, 48, 50, 48, 51, 48, 52, 48, 53, 48, 54, 48, 55, 48, 56, 48, 57, 49, 48, 49, 49, 49, 50, 49, 51, 49, 52, 49, 53, 49, 54, 49, 55, 49, 56, 49, 57, 50, 48, 50, 49, 50, 50, 50, 51, 50, 52] [50, 53, 50, 54, 50, 55, 50, 56, 50, 57, 51, 48, 51, 49, 51, 50, 51, 51, 51, 52, 51, 53, 51, 54, 51, 55, 51, 56, 51, 57, 52, 48, 52, 49, 52, 50, 52, 51, 52, 52, 52, 53, 52, 54, 52, 55, 52, 56, 52, 57]) (List.append [53, 48, 53, 49, 53, 50, 53, 51, 53, 52, 53, 53, 53, 54, 53, 55, 53, 56, 53, 57, 54, 48, 54, 49, 54, 50, 54, 51, 54, 52, 54, 53, 54, 54, 54, 55, 54, 56, 54, 57, 55, 48, 55, 49, 55, 50, 55, 51, 55, 52] [55, 53, 55, 54, 55, 55, 55, 56, 55, 57, 56, 48, 56, 49, 56, 50, 56, 51, 56, 52, 56, 53, 56, 54, 56, 55, 56, 56, 56, 57, 57, 48, 57, 49, 57, 50, 57, 51, 57, 52, 57, 53, 57, 54, 57, 55, 57, 56, 57, 57])) } 32 34)) [])) := by kernel_rfl
theorem vc_poss (e : Int) (s : ByteArray) (Q : Value → List (Option IObj) → Prop) : VC X0 29 [] Q 3000 (st 29 27 [.agg ⟨[.int .i64 e, .string s]⟩] hp0) = (
 (bif decide (e ≥ 0) then
  (bif decide (e ≤ 16) then
   (bif decide (Int.ofNat (ByteArray.size s) ≤ 512) then
    (bif e == 0 then
     (Q (.bool true) [])
    else
     (bif ByteArray.toList s == ByteArray.toList { data := #[] } then
      (Q (.bool true) [])
     else
      (Q (.bool false) [])))
   else
    (Q (.bool false) []))
  else
   (Q (.bool false) []))
 else
  (Q (.bool false) []))) := by kernel_rfl
end Go.Ideal
