/-
  Part of the proof: the machine that runs a program by fixed orders, and that each of its runs is a run of the model; or a run of it in parts. No conditions.
-/
import Derived.Test.YtihjcloanpfkaaaGreatDoorC41a
set_option maxRecDepth 1000000
namespace Go.Ideal
open Go.Proofs
noncomputable def txtT (s : ByteArray) (out b : List (EK.C kU8)) (sv bv : Value) (n i : Int) : Cfg :=
  ⟨⟨55, mkT [(3, sv), (10, bv), (11, .int .i64 n), (12, .int .i64 i)], 28, [.code (pcOf Tryz.prog 55 [1, 1, 0, 1, 0, 0]), .inLoop (pcOf Tryz.prog 55 [1, 1, 0, 1, 0, 0]), .inBlock 0, .code (pcOf Tryz.prog 55 [1, 1, 1])], [], false, .normal, none⟩,
    [⟨30, mkT [(0, .string s), (2, .string ⟨#[]⟩), (3, .int .i64 0), (4, .int .i64 0), (5, .string s), (6, .int .i64 0), (7, .int .i64 0), (8, .bool false), (10, .string s), (11, .bool false), (12, .string s), (13, bv)], 15, [regOf (pcOf Tryz.prog 30 [1, 1, 1, 0]) 2, .code .ret], [], false, .normal, none⟩],
    putRows (putRows hp0 false [⟨kU8, out⟩]) false [⟨kU8, b⟩]⟩
def txtS : Stop := ⟨55, 1, 3, 20, [], [3, 10, 11, 12]⟩
theorem vc_txt0 (s : ByteArray) (Q : Value → List (Option IObj) → Prop) (R : Cfg → Prop) : VCs X0 noPf 30 [] txtS Q R 2000 (st 30 15 [.string s] hp0) = (
 (bif decide (Int.ofNat (ByteArray.size s) > 512) then
  (Q (.tuple ⟨[(.string ({ data := #[] })), (.int IntKind.i64 12)]⟩) [])
 else
  (bif ByteArray.toList s == ByteArray.toList { data := #[] } then
   (Q (.tuple ⟨[(.string ({ data := #[45] })), (.int IntKind.i64 0)]⟩) [])
  else
   (bif decide (0 ≤ IntKind.wrap IntKind.i64 (2 * Int.ofNat (ByteArray.size s))) && decide (IntKind.wrap IntKind.i64 (2 * Int.ofNat (ByteArray.size s)) ≤ 140737488355328) then
    (R (txtT s [] (strInts s) (.slice (some ⟨20, 0, (some 0)⟩) 0 18446744073709551616) (.slice (some ⟨21, 0, (some 0)⟩) (ByteArray.size s) 18446744073709551616) (Int.ofNat (ByteArray.size s)) 0))
   else
    False)))) := by kernel_rfl
theorem vc_txt1 (s : ByteArray) (out b : List (EK.C kU8)) (m : Nat) (bn : Nat) (n i : Int) (Q : Value → List (Option IObj) → Prop) (R : Cfg → Prop) : VCs X0 noPf 30 [] txtS Q R 2000 (txtT s out b (.slice (some ⟨20, 0, some 0⟩) m capU) (.slice (some ⟨21, 0, some 0⟩) bn capU) n i) = (
 (bif decide (i < n) then
  (bif decide (0 ≤ i) && Nat.blt (Int.toNat i) bn then
   (bif Nat.blt (0 + Int.toNat i) (List.length b) then
    (bif decide (0 ≤ Int.fdiv (List.getD b (0 + Int.toNat i) (EK.dflt kU8)) (2 ^ min 4 (IntKind.bits IntKind.u8))) && Nat.blt (Int.toNat (Int.fdiv (List.getD b (0 + Int.toNat i) (EK.dflt kU8)) (2 ^ min 4 (IntKind.bits IntKind.u8)))) (ByteArray.size { data := #[48, 49, 50, 51, 52, 53, 54, 55, 56, 57, 97, 98, 99, 100, 101, 102] }) then
     (bif decide (0 ≤ IntKind.wrap IntKind.u8 ↑(BitVec.toNat (BitVec.ofInt (IntKind.bits IntKind.u8) (List.getD b (0 + Int.toNat i) (EK.dflt kU8)) &&& BitVec.ofInt (IntKind.bits IntKind.u8) 15))) && Nat.blt (Int.toNat (IntKind.wrap IntKind.u8 ↑(BitVec.toNat (BitVec.ofInt (IntKind.bits IntKind.u8) (List.getD b (0 + Int.toNat i) (EK.dflt kU8)) &&& BitVec.ofInt (IntKind.bits IntKind.u8) 15)))) (ByteArray.size { data := #[48, 49, 50, 51, 52, 53, 54, 55, 56, 57, 97, 98, 99, 100, 101, 102] }) then
      (bif true && Nat.ble (0 + m) (List.length out) && bigOk (TypeInfo.bytes (Tables.types (Program.toTables (Ctx.P X0)))[5]) (m + 2) then
       (R (txtT s (List.take m (List.drop 0 out) ++ [strAt { data := #[48, 49, 50, 51, 52, 53, 54, 55, 56, 57, 97, 98, 99, 100, 101, 102] } (Int.toNat (Int.fdiv (List.getD b (0 + Int.toNat i) (EK.dflt kU8)) (2 ^ min 4 (IntKind.bits IntKind.u8)))), strAt { data := #[48, 49, 50, 51, 52, 53, 54, 55, 56, 57, 97, 98, 99, 100, 101, 102] } (Int.toNat (IntKind.wrap IntKind.u8 ↑(BitVec.toNat (BitVec.ofInt (IntKind.bits IntKind.u8) (List.getD b (0 + Int.toNat i) (EK.dflt kU8)) &&& BitVec.ofInt (IntKind.bits IntKind.u8) 15))))]) b (.slice (some ⟨20, 0, (some 0)⟩) (m + 2) 18446744073709551616) (.slice (some ⟨21, 0, (some 0)⟩) bn 18446744073709551616) n (IntKind.wrap IntKind.i64 (i + 1))))
      else
       False)
     else
      False)
    else
     False)
   else
    False)
  else
   False)
 else
  (bif Nat.ble (0 + m) (List.length out) then
   (Q (.tuple ⟨[(.string (bytesV (List.take m (List.drop 0 out)))), (.int IntKind.i64 0)]⟩) [])
  else
   False))) := by kernel_rfl
noncomputable def rtxT (s : ByteArray) (out : List (EK.C kU8)) (sv : Value) (i : Int) : Cfg :=
  ⟨⟨58, mkT [(0, .string s), (3, sv), (4, .int .i64 i)], 26, [.code (pcOf Tryz.prog 58 [1, 1, 0, 1, 0, 0]), .inLoop (pcOf Tryz.prog 58 [1, 1, 0, 1, 0, 0]), .inBlock 0, .code (pcOf Tryz.prog 58 [1, 1, 1])], [], false, .normal, none⟩,
    [⟨35, mkT [(0, .string s), (2, .string ⟨#[]⟩), (3, .int .i64 0), (4, .string s), (5, .int .i64 s.size), (6, .bool false), (7, .string s), (8, .bool false), (9, .string s)], 11, [regOf (pcOf Tryz.prog 35 [1, 1, 1, 0]) 1, .code .ret], [], false, .normal, none⟩],
    putRows hp0 false [⟨kU8, out⟩]⟩
noncomputable def rtxT0 (s : ByteArray) (i : Int) : Cfg :=
  ⟨⟨58, mkT [(0, .string s), (3, .slice none 0 0), (4, .int .i64 i)], 26, [.code (pcOf Tryz.prog 58 [1, 1, 0, 1, 0, 0]), .inLoop (pcOf Tryz.prog 58 [1, 1, 0, 1, 0, 0]), .inBlock 0, .code (pcOf Tryz.prog 58 [1, 1, 1])], [], false, .normal, none⟩,
    [⟨35, mkT [(0, .string s), (2, .string ⟨#[]⟩), (3, .int .i64 0), (4, .string s), (5, .int .i64 s.size), (6, .bool false), (7, .string s), (8, .bool false), (9, .string s)], 11, [regOf (pcOf Tryz.prog 35 [1, 1, 1, 0]) 1, .code .ret], [], false, .normal, none⟩],
    hp0⟩
def rtxS : Stop := ⟨58, 1, 3, 20, [], [0, 3, 4]⟩
theorem vc_rtx0 (s : ByteArray) (Q : Value → List (Option IObj) → Prop) (R : Cfg → Prop) : VCs X0 noPf 35 [] rtxS Q R 2000 (st 35 11 [.string s] hp0) = (
 (bif decide (Int.ofNat (ByteArray.size s) > 512) then
  (Q (.tuple ⟨[(.string ({ data := #[] })), (.int IntKind.i64 12)]⟩) [])
 else
  (bif ByteArray.toList s == ByteArray.toList { data := #[] } then
   (Q (.tuple ⟨[(.string ({ data := #[45] })), (.int IntKind.i64 0)]⟩) [])
  else
   (R (rtxT0 s 0))))) := by kernel_rfl
theorem vc_rtx1 (s : ByteArray) (i : Int) (Q : Value → List (Option IObj) → Prop) (R : Cfg → Prop) : VCs X0 noPf 35 [] rtxS Q R 2000 (rtxT0 s i) = (
 (bif decide (i < Int.ofNat (ByteArray.size s)) then
  (bif decide (0 ≤ i) && Nat.blt (Int.toNat i) (ByteArray.size s) then
   (bif decide (0 ≤ IntKind.wrap IntKind.u8 (Int.tdiv (strAt s (Int.toNat i)) 16)) && Nat.blt (Int.toNat (IntKind.wrap IntKind.u8 (Int.tdiv (strAt s (Int.toNat i)) 16))) (ByteArray.size { data := #[48, 49, 50, 51, 52, 53, 54, 55, 56, 57, 97, 98, 99, 100, 101, 102] }) then
    (bif decide (0 ≤ i) && Nat.blt (Int.toNat i) (ByteArray.size s) then
     (bif decide (0 ≤ Int.tmod (strAt s (Int.toNat i)) 16) && Nat.blt (Int.toNat (Int.tmod (strAt s (Int.toNat i)) 16)) (ByteArray.size { data := #[48, 49, 50, 51, 52, 53, 54, 55, 56, 57, 97, 98, 99, 100, 101, 102] }) then
      (R (rtxT s ([strAt { data := #[48, 49, 50, 51, 52, 53, 54, 55, 56, 57, 97, 98, 99, 100, 101, 102] } (Int.toNat (IntKind.wrap IntKind.u8 (Int.tdiv (strAt s (Int.toNat i)) 16))), strAt { data := #[48, 49, 50, 51, 52, 53, 54, 55, 56, 57, 97, 98, 99, 100, 101, 102] } (Int.toNat (Int.tmod (strAt s (Int.toNat i)) 16))]) (.slice (some ⟨20, 0, (some 0)⟩) 2 18446744073709551616) (IntKind.wrap IntKind.i64 (i + 1))))
     else
      False)
    else
     False)
   else
    False)
  else
   False)
 else
  (Q (.tuple ⟨[(.string ByteArray.empty), (.int IntKind.i64 0)]⟩) []))) := by kernel_rfl
theorem vc_rtx2 (s : ByteArray) (out : List (EK.C kU8)) (m : Nat) (i : Int) (Q : Value → List (Option IObj) → Prop) (R : Cfg → Prop) : VCs X0 noPf 35 [] rtxS Q R 2000 (rtxT s out (.slice (some ⟨20, 0, some 0⟩) m capU) i) = (
 (bif decide (i < Int.ofNat (ByteArray.size s)) then
  (bif decide (0 ≤ i) && Nat.blt (Int.toNat i) (ByteArray.size s) then
   (bif decide (0 ≤ IntKind.wrap IntKind.u8 (Int.tdiv (strAt s (Int.toNat i)) 16)) && Nat.blt (Int.toNat (IntKind.wrap IntKind.u8 (Int.tdiv (strAt s (Int.toNat i)) 16))) (ByteArray.size { data := #[48, 49, 50, 51, 52, 53, 54, 55, 56, 57, 97, 98, 99, 100, 101, 102] }) then
    (bif decide (0 ≤ i) && Nat.blt (Int.toNat i) (ByteArray.size s) then
     (bif decide (0 ≤ Int.tmod (strAt s (Int.toNat i)) 16) && Nat.blt (Int.toNat (Int.tmod (strAt s (Int.toNat i)) 16)) (ByteArray.size { data := #[48, 49, 50, 51, 52, 53, 54, 55, 56, 57, 97, 98, 99, 100, 101, 102] }) then
      (bif true && Nat.ble (0 + m) (List.length out) && bigOk (TypeInfo.bytes (Tables.types (Program.toTables (Ctx.P X0)))[5]) (m + 2) then
       (R (rtxT s (List.take m (List.drop 0 out) ++ [strAt { data := #[48, 49, 50, 51, 52, 53, 54, 55, 56, 57, 97, 98, 99, 100, 101, 102] } (Int.toNat (IntKind.wrap IntKind.u8 (Int.tdiv (strAt s (Int.toNat i)) 16))), strAt { data := #[48, 49, 50, 51, 52, 53, 54, 55, 56, 57, 97, 98, 99, 100, 101, 102] } (Int.toNat (Int.tmod (strAt s (Int.toNat i)) 16))]) (.slice (some ⟨20, 0, (some 0)⟩) (m + 2) 18446744073709551616) (IntKind.wrap IntKind.i64 (i + 1))))
      else
       False)
     else
      False)
    else
     False)
   else
    False)
  else
   False)
 else
  (bif Nat.ble (0 + m) (List.length out) then
   (Q (.tuple ⟨[(.string (bytesV (List.take m (List.drop 0 out)))), (.int IntKind.i64 0)]⟩) [])
  else
   False))) := by kernel_rfl
end Go.Ideal
