/-
  Part of the proof: the machine that runs a program by fixed orders, and that each of its runs is a run of the model; or a run of it in parts. No conditions.
-/
import Derived.Test.YtfgamdmnljnonaaGreatDoorC41s4
set_option maxRecDepth 1000000
namespace Go.Ideal
open Go.Proofs
noncomputable def qKey : PlainF where
  ok := fun args => match args with
    | [.string s] => isLet s
    | _ => False
  v := fun _ => .int .i64 0
noncomputable def pKey : PFun := fun args H K => match args with
  | [.string s] => isLet s ∧ K (.int .i64 0) H
  | _ => False
noncomputable def fTxt2 : IFun := fun args H => match args with
  | [.string s] => if s.size ≤ 512 then some (.tuple ⟨[.string (vstr s), .int .i64 0]⟩, H) else none
  | _ => none
noncomputable def pTxt2 : PFun := fun args H K => match args with
  | [.string s] => s.size ≤ 512 ∧ K (.tuple ⟨[.string (vstr s), .int .i64 0]⟩) H
  | _ => False
noncomputable abbrev ckFs : List (FuncId × IFun) := [(f_key_Check, qKey.F), (f_value_Text, fTxt2), (f_strconv_Itoa, itoaI), (f_fault_read, footF tabLaid 20 [] readG)]
noncomputable def XCk : Ctx := ctxI Tryz.prog tabLaid ckFs
noncomputable def pfCk : Pf := fun g => bif Nat.beq g f_key_Check then some pKey else (fun g => bif Nat.beq g f_value_Text then some pTxt2 else (fun g => bif Nat.beq g f_strconv_Itoa then some pItoa else (fun g => bif Nat.beq g f_fault_read then some (footPf tabLaid 20 [] readG) else noPf g) g) g) g
noncomputable def opV (k a b : Int) (key val : ByteArray) : Value := .agg ⟨[.int .i64 k, .int .i64 a, .int .i64 b, .string key, .string val]⟩
theorem vc_ck4 (Q : Value → List (Option IObj) → Prop) : VCp XCk pfCk f_op_Check [] Q 2000 (st f_op_Check 11 [opV 4 0 0 ByteArray.empty ByteArray.empty] hp0) = (
 (((.agg ⟨[(.int IntKind.i64 4), (.int IntKind.i64 0), (.int IntKind.i64 0), (.string ({ data := #[] })), (.string ({ data := #[] }))]⟩) : Value) = (.agg ⟨[(.int IntKind.i64 4), (.int IntKind.i64 0), (.int IntKind.i64 0), (.string ({ data := #[] })), (.string ({ data := #[] }))]⟩)) ∧
 (((.int IntKind.i64 4) : Value) = (.int IntKind.i64 4)) ∧
 (((.pointer (some ⟨21, 0, none⟩)) : Value) = (.pointer (some ⟨21, 0, none⟩))) ∧
 (Q (.int IntKind.i64 0) [])) := by kernel_rfl
theorem vc_ck5 (Q : Value → List (Option IObj) → Prop) : VCp XCk pfCk f_op_Check [] Q 2000 (st f_op_Check 11 [opV 5 0 0 ByteArray.empty ByteArray.empty] hp0) = (
 (((.agg ⟨[(.int IntKind.i64 5), (.int IntKind.i64 0), (.int IntKind.i64 0), (.string ({ data := #[] })), (.string ({ data := #[] }))]⟩) : Value) = (.agg ⟨[(.int IntKind.i64 5), (.int IntKind.i64 0), (.int IntKind.i64 0), (.string ({ data := #[] })), (.string ({ data := #[] }))]⟩)) ∧
 (((.int IntKind.i64 5) : Value) = (.int IntKind.i64 5)) ∧
 (((.pointer (some ⟨21, 0, none⟩)) : Value) = (.pointer (some ⟨21, 0, none⟩))) ∧
 (Q (.int IntKind.i64 0) [])) := by kernel_rfl
theorem vc_ck8 (Q : Value → List (Option IObj) → Prop) : VCp XCk pfCk f_op_Check [] Q 2000 (st f_op_Check 11 [opV 8 0 0 ByteArray.empty ByteArray.empty] hp0) = (
 (((.agg ⟨[(.int IntKind.i64 8), (.int IntKind.i64 0), (.int IntKind.i64 0), (.string ({ data := #[] })), (.string ({ data := #[] }))]⟩) : Value) = (.agg ⟨[(.int IntKind.i64 8), (.int IntKind.i64 0), (.int IntKind.i64 0), (.string ({ data := #[] })), (.string ({ data := #[] }))]⟩)) ∧
 (((.int IntKind.i64 8) : Value) = (.int IntKind.i64 8)) ∧
 (((.pointer (some ⟨21, 0, none⟩)) : Value) = (.pointer (some ⟨21, 0, none⟩))) ∧
 (Q (.int IntKind.i64 0) [])) := by kernel_rfl
theorem vc_ck61 (Q : Value → List (Option IObj) → Prop) : VCp XCk pfCk f_op_Check [] Q 2000 (st f_op_Check 11 [opV 6 1 0 ByteArray.empty ByteArray.empty] hp0) = (
 (((.agg ⟨[(.int IntKind.i64 6), (.int IntKind.i64 0), (.int IntKind.i64 0), (.string ({ data := #[] })), (.string ({ data := #[] }))]⟩) : Value) = (.agg ⟨[(.int IntKind.i64 6), (.int IntKind.i64 0), (.int IntKind.i64 0), (.string ({ data := #[] })), (.string ({ data := #[] }))]⟩)) ∧
 (((.int IntKind.i64 6) : Value) = (.int IntKind.i64 6)) ∧
 (((.pointer (some ⟨21, 0, none⟩)) : Value) = (.pointer (some ⟨21, 0, none⟩))) ∧
 (((.agg ⟨[(.int IntKind.i64 6), (.int IntKind.i64 1), (.int IntKind.i64 0), (.string ({ data := #[] })), (.string ({ data := #[] }))]⟩) : Value) = (.agg ⟨[(.int IntKind.i64 6), (.int IntKind.i64 1), (.int IntKind.i64 0), (.string ({ data := #[] })), (.string ({ data := #[] }))]⟩)) ∧
 (((.int IntKind.i64 1) : Value) = (.int IntKind.i64 1)) ∧
 (((.pointer (some ⟨26, 1, none⟩)) : Value) = (.pointer (some ⟨26, 1, none⟩))) ∧
 (((.int IntKind.i64 6) : Value) = (.int IntKind.i64 6)) ∧
 (((.pointer (some ⟨26, 0, none⟩)) : Value) = (.pointer (some ⟨26, 0, none⟩))) ∧
 (((.int IntKind.i64 1) : Value) = (.int IntKind.i64 1)) ∧
 (((.pointer (some ⟨26, 1, none⟩)) : Value) = (.pointer (some ⟨26, 1, none⟩))) ∧
 (((.agg ⟨[(.int IntKind.i64 6), (.int IntKind.i64 1), (.int IntKind.i64 0), (.string ({ data := #[] })), (.string ({ data := #[] }))]⟩) : Value) = (.agg ⟨[(.int IntKind.i64 6), (.int IntKind.i64 1), (.int IntKind.i64 0), (.string ({ data := #[] })), (.string ({ data := #[] }))]⟩)) ∧
 (((.int IntKind.i64 1) : Value) = (.int IntKind.i64 1)) ∧
 (((.pointer (some ⟨26, 1, none⟩)) : Value) = (.pointer (some ⟨26, 1, none⟩))) ∧
 (((.int IntKind.i64 6) : Value) = (.int IntKind.i64 6)) ∧
 (((.pointer (some ⟨26, 0, none⟩)) : Value) = (.pointer (some ⟨26, 0, none⟩))) ∧
 (Q (.int IntKind.i64 0) [])) := by kernel_rfl
theorem vc_ck62 (Q : Value → List (Option IObj) → Prop) : VCp XCk pfCk f_op_Check [] Q 2000 (st f_op_Check 11 [opV 6 2 0 ByteArray.empty ByteArray.empty] hp0) = (
 (((.agg ⟨[(.int IntKind.i64 6), (.int IntKind.i64 0), (.int IntKind.i64 0), (.string ({ data := #[] })), (.string ({ data := #[] }))]⟩) : Value) = (.agg ⟨[(.int IntKind.i64 6), (.int IntKind.i64 0), (.int IntKind.i64 0), (.string ({ data := #[] })), (.string ({ data := #[] }))]⟩)) ∧
 (((.int IntKind.i64 6) : Value) = (.int IntKind.i64 6)) ∧
 (((.pointer (some ⟨21, 0, none⟩)) : Value) = (.pointer (some ⟨21, 0, none⟩))) ∧
 (((.agg ⟨[(.int IntKind.i64 6), (.int IntKind.i64 2), (.int IntKind.i64 0), (.string ({ data := #[] })), (.string ({ data := #[] }))]⟩) : Value) = (.agg ⟨[(.int IntKind.i64 6), (.int IntKind.i64 2), (.int IntKind.i64 0), (.string ({ data := #[] })), (.string ({ data := #[] }))]⟩)) ∧
 (((.int IntKind.i64 2) : Value) = (.int IntKind.i64 2)) ∧
 (((.pointer (some ⟨26, 1, none⟩)) : Value) = (.pointer (some ⟨26, 1, none⟩))) ∧
 (((.int IntKind.i64 6) : Value) = (.int IntKind.i64 6)) ∧
 (((.pointer (some ⟨26, 0, none⟩)) : Value) = (.pointer (some ⟨26, 0, none⟩))) ∧
 (((.int IntKind.i64 2) : Value) = (.int IntKind.i64 2)) ∧
 (((.pointer (some ⟨26, 1, none⟩)) : Value) = (.pointer (some ⟨26, 1, none⟩))) ∧
 (((.agg ⟨[(.int IntKind.i64 6), (.int IntKind.i64 2), (.int IntKind.i64 0), (.string ({ data := #[] })), (.string ({ data := #[] }))]⟩) : Value) = (.agg ⟨[(.int IntKind.i64 6), (.int IntKind.i64 2), (.int IntKind.i64 0), (.string ({ data := #[] })), (.string ({ data := #[] }))]⟩)) ∧
 (((.int IntKind.i64 2) : Value) = (.int IntKind.i64 2)) ∧
 (((.pointer (some ⟨26, 1, none⟩)) : Value) = (.pointer (some ⟨26, 1, none⟩))) ∧
 (((.int IntKind.i64 6) : Value) = (.int IntKind.i64 6)) ∧
 (((.pointer (some ⟨26, 0, none⟩)) : Value) = (.pointer (some ⟨26, 0, none⟩))) ∧
 (Q (.int IntKind.i64 0) [])) := by kernel_rfl
theorem vc_ck2 (key : ByteArray) (Q : Value → List (Option IObj) → Prop) : VCp XCk pfCk f_op_Check [] Q 2000 (st f_op_Check 11 [opV 2 0 0 key ByteArray.empty] hp0) = (
 (((.agg ⟨[(.int IntKind.i64 2), (.int IntKind.i64 0), (.int IntKind.i64 0), (.string ({ data := #[] })), (.string ({ data := #[] }))]⟩) : Value) = (.agg ⟨[(.int IntKind.i64 2), (.int IntKind.i64 0), (.int IntKind.i64 0), (.string ({ data := #[] })), (.string ({ data := #[] }))]⟩)) ∧
 (((.int IntKind.i64 2) : Value) = (.int IntKind.i64 2)) ∧
 (((.pointer (some ⟨21, 0, none⟩)) : Value) = (.pointer (some ⟨21, 0, none⟩))) ∧
 (bif Nat.ble (ByteArray.size { data := #[32] } + ByteArray.size key) 9223372036854775807 then
  (isLet key) ∧
  (((.agg ⟨[(.int IntKind.i64 2), (.int IntKind.i64 0), (.int IntKind.i64 0), (.string key), (.string ({ data := #[] }))]⟩) : Value) = (.agg ⟨[(.int IntKind.i64 2), (.int IntKind.i64 0), (.int IntKind.i64 0), (.string key), (.string ({ data := #[] }))]⟩)) ∧
  (((.string key) : Value) = (.string key)) ∧
  (((.pointer (some ⟨26, 3, none⟩)) : Value) = (.pointer (some ⟨26, 3, none⟩))) ∧
  (((.int IntKind.i64 2) : Value) = (.int IntKind.i64 2)) ∧
  (((.pointer (some ⟨26, 0, none⟩)) : Value) = (.pointer (some ⟨26, 0, none⟩))) ∧
  (bif Nat.ble (ByteArray.size { data := #[32] } + ByteArray.size key) 9223372036854775807 then
   (((.string ({ data := #[32] } ++ key)) : Value) = (.string ({ data := #[32] } ++ key))) ∧
   (((.string key) : Value) = (.string key)) ∧
   (((.pointer (some ⟨26, 3, none⟩)) : Value) = (.pointer (some ⟨26, 3, none⟩))) ∧
   (((.bool (0 == 0)) : Value) = (.bool true)) ∧
   (((.agg ⟨[(.int IntKind.i64 2), (.int IntKind.i64 0), (.int IntKind.i64 0), (.string key), (.string ({ data := #[] }))]⟩) : Value) = (.agg ⟨[(.int IntKind.i64 2), (.int IntKind.i64 0), (.int IntKind.i64 0), (.string key), (.string ({ data := #[] }))]⟩)) ∧
   (((.string key) : Value) = (.string key)) ∧
   (((.pointer (some ⟨26, 3, none⟩)) : Value) = (.pointer (some ⟨26, 3, none⟩))) ∧
   (((.int IntKind.i64 2) : Value) = (.int IntKind.i64 2)) ∧
   (((.pointer (some ⟨26, 0, none⟩)) : Value) = (.pointer (some ⟨26, 0, none⟩))) ∧
   (((.bool (0 == 0)) : Value) = (.bool true)) ∧
   (bif !(2 == 2 && (0 == 0 && (0 == 0 && (ByteArray.toList key == ByteArray.toList key && (ByteArray.toList { data := #[] } == ByteArray.toList ByteArray.empty && true))))) then
    (Q (.int IntKind.i64 2) [])
   else
    (bif Nat.ble (ByteArray.size { data := #[103, 101, 116] } + ByteArray.size ({ data := #[32] } ++ key)) 9223372036854775807 then
     (Q (.int IntKind.i64 0) [])
    else
     False))
  else
   False)
 else
  False)) := by kernel_rfl
theorem vc_ck3 (key : ByteArray) (Q : Value → List (Option IObj) → Prop) : VCp XCk pfCk f_op_Check [] Q 2000 (st f_op_Check 11 [opV 3 0 0 key ByteArray.empty] hp0) = (
 (((.agg ⟨[(.int IntKind.i64 3), (.int IntKind.i64 0), (.int IntKind.i64 0), (.string ({ data := #[] })), (.string ({ data := #[] }))]⟩) : Value) = (.agg ⟨[(.int IntKind.i64 3), (.int IntKind.i64 0), (.int IntKind.i64 0), (.string ({ data := #[] })), (.string ({ data := #[] }))]⟩)) ∧
 (((.int IntKind.i64 3) : Value) = (.int IntKind.i64 3)) ∧
 (((.pointer (some ⟨21, 0, none⟩)) : Value) = (.pointer (some ⟨21, 0, none⟩))) ∧
 (bif Nat.ble (ByteArray.size { data := #[32] } + ByteArray.size key) 9223372036854775807 then
  (isLet key) ∧
  (((.agg ⟨[(.int IntKind.i64 3), (.int IntKind.i64 0), (.int IntKind.i64 0), (.string key), (.string ({ data := #[] }))]⟩) : Value) = (.agg ⟨[(.int IntKind.i64 3), (.int IntKind.i64 0), (.int IntKind.i64 0), (.string key), (.string ({ data := #[] }))]⟩)) ∧
  (((.string key) : Value) = (.string key)) ∧
  (((.pointer (some ⟨26, 3, none⟩)) : Value) = (.pointer (some ⟨26, 3, none⟩))) ∧
  (((.int IntKind.i64 3) : Value) = (.int IntKind.i64 3)) ∧
  (((.pointer (some ⟨26, 0, none⟩)) : Value) = (.pointer (some ⟨26, 0, none⟩))) ∧
  (bif Nat.ble (ByteArray.size { data := #[32] } + ByteArray.size key) 9223372036854775807 then
   (((.string ({ data := #[32] } ++ key)) : Value) = (.string ({ data := #[32] } ++ key))) ∧
   (((.string key) : Value) = (.string key)) ∧
   (((.pointer (some ⟨26, 3, none⟩)) : Value) = (.pointer (some ⟨26, 3, none⟩))) ∧
   (((.bool (0 == 0)) : Value) = (.bool true)) ∧
   (((.agg ⟨[(.int IntKind.i64 3), (.int IntKind.i64 0), (.int IntKind.i64 0), (.string key), (.string ({ data := #[] }))]⟩) : Value) = (.agg ⟨[(.int IntKind.i64 3), (.int IntKind.i64 0), (.int IntKind.i64 0), (.string key), (.string ({ data := #[] }))]⟩)) ∧
   (((.string key) : Value) = (.string key)) ∧
   (((.pointer (some ⟨26, 3, none⟩)) : Value) = (.pointer (some ⟨26, 3, none⟩))) ∧
   (((.int IntKind.i64 3) : Value) = (.int IntKind.i64 3)) ∧
   (((.pointer (some ⟨26, 0, none⟩)) : Value) = (.pointer (some ⟨26, 0, none⟩))) ∧
   (((.bool (0 == 0)) : Value) = (.bool true)) ∧
   (bif !(3 == 3 && (0 == 0 && (0 == 0 && (ByteArray.toList key == ByteArray.toList key && (ByteArray.toList { data := #[] } == ByteArray.toList ByteArray.empty && true))))) then
    (Q (.int IntKind.i64 2) [])
   else
    (bif Nat.ble (ByteArray.size { data := #[100, 101, 108, 101, 116, 101] } + ByteArray.size ({ data := #[32] } ++ key)) 9223372036854775807 then
     (Q (.int IntKind.i64 0) [])
    else
     False))
  else
   False)
 else
  False)) := by kernel_rfl
theorem vc_ck1 (key val : ByteArray) (Q : Value → List (Option IObj) → Prop) : VCp XCk pfCk f_op_Check [] Q 2000 (st f_op_Check 11 [opV 1 0 0 key val] hp0) = (
 (((.agg ⟨[(.int IntKind.i64 1), (.int IntKind.i64 0), (.int IntKind.i64 0), (.string ({ data := #[] })), (.string ({ data := #[] }))]⟩) : Value) = (.agg ⟨[(.int IntKind.i64 1), (.int IntKind.i64 0), (.int IntKind.i64 0), (.string ({ data := #[] })), (.string ({ data := #[] }))]⟩)) ∧
 (((.int IntKind.i64 1) : Value) = (.int IntKind.i64 1)) ∧
 (((.pointer (some ⟨21, 0, none⟩)) : Value) = (.pointer (some ⟨21, 0, none⟩))) ∧
 (bif Nat.ble (ByteArray.size { data := #[32] } + ByteArray.size key) 9223372036854775807 then
  (isLet key) ∧
  (((.agg ⟨[(.int IntKind.i64 1), (.int IntKind.i64 0), (.int IntKind.i64 0), (.string key), (.string ({ data := #[] }))]⟩) : Value) = (.agg ⟨[(.int IntKind.i64 1), (.int IntKind.i64 0), (.int IntKind.i64 0), (.string key), (.string ({ data := #[] }))]⟩)) ∧
  (((.string key) : Value) = (.string key)) ∧
  (((.pointer (some ⟨28, 3, none⟩)) : Value) = (.pointer (some ⟨28, 3, none⟩))) ∧
  (((.int IntKind.i64 1) : Value) = (.int IntKind.i64 1)) ∧
  (((.pointer (some ⟨28, 0, none⟩)) : Value) = (.pointer (some ⟨28, 0, none⟩))) ∧
  (bif Nat.ble (ByteArray.size { data := #[32] } + ByteArray.size key) 9223372036854775807 then
   (((.string ({ data := #[32] } ++ key)) : Value) = (.string ({ data := #[32] } ++ key))) ∧
   (((.string key) : Value) = (.string key)) ∧
   (((.pointer (some ⟨28, 3, none⟩)) : Value) = (.pointer (some ⟨28, 3, none⟩))) ∧
   (((.bool (0 == 0)) : Value) = (.bool true)) ∧
   (((.agg ⟨[(.int IntKind.i64 1), (.int IntKind.i64 0), (.int IntKind.i64 0), (.string key), (.string ({ data := #[] }))]⟩) : Value) = (.agg ⟨[(.int IntKind.i64 1), (.int IntKind.i64 0), (.int IntKind.i64 0), (.string key), (.string ({ data := #[] }))]⟩)) ∧
   (((.string key) : Value) = (.string key)) ∧
   (((.pointer (some ⟨28, 3, none⟩)) : Value) = (.pointer (some ⟨28, 3, none⟩))) ∧
   (((.int IntKind.i64 1) : Value) = (.int IntKind.i64 1)) ∧
   (((.pointer (some ⟨28, 0, none⟩)) : Value) = (.pointer (some ⟨28, 0, none⟩))) ∧
   (((.bool (0 == 0)) : Value) = (.bool true)) ∧
   (ByteArray.size val ≤ 512) ∧
   (bif Nat.ble (ByteArray.size ({ data := #[32] } ++ key) + ByteArray.size { data := #[32] }) 9223372036854775807 then
    (bif Nat.ble (ByteArray.size ({ data := #[32] } ++ key ++ { data := #[32] }) + ByteArray.size (vstr val)) 9223372036854775807 then
     (((.bool true) : Value) = (.bool true)) ∧
     (((.bool (0 == 0)) : Value) = (.bool true)) ∧
     (((.int IntKind.i64 0) : Value) = (.int IntKind.i64 0)) ∧
     (((.agg ⟨[(.int IntKind.i64 1), (.int IntKind.i64 0), (.int IntKind.i64 0), (.string key), (.string val)]⟩) : Value) = (.agg ⟨[(.int IntKind.i64 1), (.int IntKind.i64 0), (.int IntKind.i64 0), (.string key), (.string val)]⟩)) ∧
     (((.bool true) : Value) = (.bool true)) ∧
     (((.bool (0 == 0)) : Value) = (.bool true)) ∧
     (((.int IntKind.i64 0) : Value) = (.int IntKind.i64 0)) ∧
     (bif !(1 == 1 && (0 == 0 && (0 == 0 && (ByteArray.toList key == ByteArray.toList key && (ByteArray.toList val == ByteArray.toList val && true))))) then
      (Q (.int IntKind.i64 2) [])
     else
      (bif Nat.ble (ByteArray.size { data := #[112, 117, 116] } + ByteArray.size ({ data := #[32] } ++ key ++ { data := #[32] } ++ vstr val)) 9223372036854775807 then
       (Q (.int IntKind.i64 0) [])
      else
       False))
    else
     False)
   else
    False)
  else
   False)
 else
  False)) := by kernel_rfl
theorem vc_ck70 (a : Int) (val : ByteArray) (Q : Value → List (Option IObj) → Prop) : VCp XCk pfCk f_op_Check [] Q 2000 (st f_op_Check 11 [opV 7 a 0 ByteArray.empty val] hp0) = (
 (((.agg ⟨[(.int IntKind.i64 7), (.int IntKind.i64 0), (.int IntKind.i64 0), (.string ({ data := #[] })), (.string ({ data := #[] }))]⟩) : Value) = (.agg ⟨[(.int IntKind.i64 7), (.int IntKind.i64 0), (.int IntKind.i64 0), (.string ({ data := #[] })), (.string ({ data := #[] }))]⟩)) ∧
 (((.int IntKind.i64 7) : Value) = (.int IntKind.i64 7)) ∧
 (((.pointer (some ⟨21, 0, none⟩)) : Value) = (.pointer (some ⟨21, 0, none⟩))) ∧
 (0 ≤ a ∧ a ≤ 9223372036854775807) ∧
 (((.string val) : Value) = (.string val)) ∧
 (((.pointer (some ⟨26, 4, none⟩)) : Value) = (.pointer (some ⟨26, 4, none⟩))) ∧
 (((.string ({ data := #[110] })) : Value) = (.string ({ data := #[110] }))) ∧
 (((.pointer (some ⟨28, 0, none⟩)) : Value) = (.pointer (some ⟨28, 0, none⟩))) ∧
 (((.int IntKind.i64 0) : Value) = (.int IntKind.i64 0)) ∧
 (((.int IntKind.i64 0) : Value) = (.int IntKind.i64 0)) ∧
 (((.pointer (some ⟨26, 2, none⟩)) : Value) = (.pointer (some ⟨26, 2, none⟩))) ∧
 (bif Nat.ble (ByteArray.size (decB a) + ByteArray.size { data := #[32] }) 9223372036854775807 then
  (bif Nat.ble (ByteArray.size (decB a ++ { data := #[32] }) + ByteArray.size { data := #[110] }) 9223372036854775807 then
   (bif Nat.ble (ByteArray.size (decB a ++ { data := #[32] } ++ { data := #[110] }) + ByteArray.size { data := #[32] }) 9223372036854775807 then
    (bif Nat.ble (ByteArray.size (decB a ++ { data := #[32] } ++ { data := #[110] } ++ { data := #[32] }) + ByteArray.size val) 9223372036854775807 then
     (planIn (decB a ++ { data := #[32] } ++ { data := #[110] } ++ { data := #[32] } ++ val)) ∧
     (bif List.length (Prod.snd (Prod.snd (plC (decB a ++ { data := #[32] } ++ { data := #[110] } ++ { data := #[32] } ++ val)))) == 1 then
      (bif Nat.ble (ByteArray.size { data := #[32] } + ByteArray.size (decB a ++ { data := #[32] } ++ { data := #[110] } ++ { data := #[32] } ++ val)) 9223372036854775807 then
       (((.bool (0 == 0)) : Value) = (.bool true)) ∧
       (((.int IntKind.i64 0) : Value) = (.int IntKind.i64 0)) ∧
       (((.agg ⟨[(.int IntKind.i64 7), (.int IntKind.i64 a), (.int IntKind.i64 0), (.string ({ data := #[] })), (.string val)]⟩) : Value) = (.agg ⟨[(.int IntKind.i64 7), (.int IntKind.i64 a), (.int IntKind.i64 0), (.string ({ data := #[] })), (.string val)]⟩)) ∧
       (((.string val) : Value) = (.string val)) ∧
       (((.pointer (some ⟨26, 4, none⟩)) : Value) = (.pointer (some ⟨26, 4, none⟩))) ∧
       (((.int IntKind.i64 0) : Value) = (.int IntKind.i64 0)) ∧
       (((.int IntKind.i64 0) : Value) = (.int IntKind.i64 0)) ∧
       (((.pointer (some ⟨26, 2, none⟩)) : Value) = (.pointer (some ⟨26, 2, none⟩))) ∧
       (((.int IntKind.i64 a) : Value) = (.int IntKind.i64 a)) ∧
       (((.pointer (some ⟨26, 1, none⟩)) : Value) = (.pointer (some ⟨26, 1, none⟩))) ∧
       (((.int IntKind.i64 7) : Value) = (.int IntKind.i64 7)) ∧
       (((.pointer (some ⟨26, 0, none⟩)) : Value) = (.pointer (some ⟨26, 0, none⟩))) ∧
       (((.bool (0 == 0)) : Value) = (.bool true)) ∧
       (((.int IntKind.i64 0) : Value) = (.int IntKind.i64 0)) ∧
       (bif !(7 == 7 && (a == a && (0 == 0 && (ByteArray.toList { data := #[] } == ByteArray.toList ByteArray.empty && (ByteArray.toList val == ByteArray.toList val && true))))) then
        (Q (.int IntKind.i64 2) [])
       else
        (bif Nat.ble (ByteArray.size { data := #[99, 114, 97, 115, 104] } + ByteArray.size ({ data := #[32] } ++ (decB a ++ { data := #[32] } ++ { data := #[110] } ++ { data := #[32] } ++ val))) 9223372036854775807 then
         (Q (.int IntKind.i64 0) [])
        else
         False))
      else
       False)
     else
      (bif List.length (Prod.snd (Prod.snd (plC (decB a ++ { data := #[32] } ++ { data := #[110] } ++ { data := #[32] } ++ val)))) == 2 then
       (bif Nat.ble (ByteArray.size { data := #[32] } + ByteArray.size (decB a ++ { data := #[32] } ++ { data := #[110] } ++ { data := #[32] } ++ val)) 9223372036854775807 then
        (((.bool (0 == 0)) : Value) = (.bool true)) ∧
        (((.int IntKind.i64 0) : Value) = (.int IntKind.i64 0)) ∧
        (((.agg ⟨[(.int IntKind.i64 7), (.int IntKind.i64 a), (.int IntKind.i64 0), (.string ({ data := #[] })), (.string val)]⟩) : Value) = (.agg ⟨[(.int IntKind.i64 7), (.int IntKind.i64 a), (.int IntKind.i64 0), (.string ({ data := #[] })), (.string val)]⟩)) ∧
        (((.string val) : Value) = (.string val)) ∧
        (((.pointer (some ⟨26, 4, none⟩)) : Value) = (.pointer (some ⟨26, 4, none⟩))) ∧
        (((.int IntKind.i64 0) : Value) = (.int IntKind.i64 0)) ∧
        (((.int IntKind.i64 0) : Value) = (.int IntKind.i64 0)) ∧
        (((.pointer (some ⟨26, 2, none⟩)) : Value) = (.pointer (some ⟨26, 2, none⟩))) ∧
        (((.int IntKind.i64 a) : Value) = (.int IntKind.i64 a)) ∧
        (((.pointer (some ⟨26, 1, none⟩)) : Value) = (.pointer (some ⟨26, 1, none⟩))) ∧
        (((.int IntKind.i64 7) : Value) = (.int IntKind.i64 7)) ∧
        (((.pointer (some ⟨26, 0, none⟩)) : Value) = (.pointer (some ⟨26, 0, none⟩))) ∧
        (((.bool (0 == 0)) : Value) = (.bool true)) ∧
        (((.int IntKind.i64 0) : Value) = (.int IntKind.i64 0)) ∧
        (bif !(7 == 7 && (a == a && (0 == 0 && (ByteArray.toList { data := #[] } == ByteArray.toList ByteArray.empty && (ByteArray.toList val == ByteArray.toList val && true))))) then
         (Q (.int IntKind.i64 2) [])
        else
         (bif Nat.ble (ByteArray.size { data := #[99, 114, 97, 115, 104] } + ByteArray.size ({ data := #[32] } ++ (decB a ++ { data := #[32] } ++ { data := #[110] } ++ { data := #[32] } ++ val))) 9223372036854775807 then
          (Q (.int IntKind.i64 0) [])
         else
          False))
       else
        False)
      else
       (bif Nat.ble (ByteArray.size { data := #[32] } + ByteArray.size (decB a ++ { data := #[32] } ++ { data := #[110] } ++ { data := #[32] } ++ val)) 9223372036854775807 then
        (((.bool (0 == 0)) : Value) = (.bool true)) ∧
        (((.int IntKind.i64 0) : Value) = (.int IntKind.i64 0)) ∧
        (((.agg ⟨[(.int IntKind.i64 7), (.int IntKind.i64 a), (.int IntKind.i64 0), (.string ({ data := #[] })), (.string val)]⟩) : Value) = (.agg ⟨[(.int IntKind.i64 7), (.int IntKind.i64 a), (.int IntKind.i64 0), (.string ({ data := #[] })), (.string val)]⟩)) ∧
        (((.string val) : Value) = (.string val)) ∧
        (((.pointer (some ⟨26, 4, none⟩)) : Value) = (.pointer (some ⟨26, 4, none⟩))) ∧
        (((.int IntKind.i64 0) : Value) = (.int IntKind.i64 0)) ∧
        (((.int IntKind.i64 0) : Value) = (.int IntKind.i64 0)) ∧
        (((.pointer (some ⟨26, 2, none⟩)) : Value) = (.pointer (some ⟨26, 2, none⟩))) ∧
        (((.int IntKind.i64 a) : Value) = (.int IntKind.i64 a)) ∧
        (((.pointer (some ⟨26, 1, none⟩)) : Value) = (.pointer (some ⟨26, 1, none⟩))) ∧
        (((.int IntKind.i64 7) : Value) = (.int IntKind.i64 7)) ∧
        (((.pointer (some ⟨26, 0, none⟩)) : Value) = (.pointer (some ⟨26, 0, none⟩))) ∧
        (((.bool (0 == 0)) : Value) = (.bool true)) ∧
        (((.int IntKind.i64 0) : Value) = (.int IntKind.i64 0)) ∧
        (bif !(7 == 7 && (a == a && (0 == 0 && (ByteArray.toList { data := #[] } == ByteArray.toList ByteArray.empty && (ByteArray.toList val == ByteArray.toList val && true))))) then
         (Q (.int IntKind.i64 2) [])
        else
         (bif Nat.ble (ByteArray.size { data := #[99, 114, 97, 115, 104] } + ByteArray.size ({ data := #[32] } ++ (decB a ++ { data := #[32] } ++ { data := #[110] } ++ { data := #[32] } ++ val))) 9223372036854775807 then
          (Q (.int IntKind.i64 0) [])
         else
          False))
       else
        False)))
    else
     False)
   else
    False)
  else
   False)
 else
  False)) := by kernel_rfl
theorem vc_ck71 (a : Int) (val : ByteArray) (Q : Value → List (Option IObj) → Prop) : VCp XCk pfCk f_op_Check [] Q 2000 (st f_op_Check 11 [opV 7 a 1 ByteArray.empty val] hp0) = (
 (((.agg ⟨[(.int IntKind.i64 7), (.int IntKind.i64 0), (.int IntKind.i64 0), (.string ({ data := #[] })), (.string ({ data := #[] }))]⟩) : Value) = (.agg ⟨[(.int IntKind.i64 7), (.int IntKind.i64 0), (.int IntKind.i64 0), (.string ({ data := #[] })), (.string ({ data := #[] }))]⟩)) ∧
 (((.int IntKind.i64 7) : Value) = (.int IntKind.i64 7)) ∧
 (((.pointer (some ⟨21, 0, none⟩)) : Value) = (.pointer (some ⟨21, 0, none⟩))) ∧
 (0 ≤ a ∧ a ≤ 9223372036854775807) ∧
 (((.string val) : Value) = (.string val)) ∧
 (((.pointer (some ⟨26, 4, none⟩)) : Value) = (.pointer (some ⟨26, 4, none⟩))) ∧
 (((.string ({ data := #[121] })) : Value) = (.string ({ data := #[121] }))) ∧
 (((.pointer (some ⟨28, 1, none⟩)) : Value) = (.pointer (some ⟨28, 1, none⟩))) ∧
 (((.int IntKind.i64 1) : Value) = (.int IntKind.i64 1)) ∧
 (((.int IntKind.i64 1) : Value) = (.int IntKind.i64 1)) ∧
 (((.pointer (some ⟨26, 2, none⟩)) : Value) = (.pointer (some ⟨26, 2, none⟩))) ∧
 (bif Nat.ble (ByteArray.size (decB a) + ByteArray.size { data := #[32] }) 9223372036854775807 then
  (bif Nat.ble (ByteArray.size (decB a ++ { data := #[32] }) + ByteArray.size { data := #[121] }) 9223372036854775807 then
   (bif Nat.ble (ByteArray.size (decB a ++ { data := #[32] } ++ { data := #[121] }) + ByteArray.size { data := #[32] }) 9223372036854775807 then
    (bif Nat.ble (ByteArray.size (decB a ++ { data := #[32] } ++ { data := #[121] } ++ { data := #[32] }) + ByteArray.size val) 9223372036854775807 then
     (planIn (decB a ++ { data := #[32] } ++ { data := #[121] } ++ { data := #[32] } ++ val)) ∧
     (bif List.length (Prod.snd (Prod.snd (plC (decB a ++ { data := #[32] } ++ { data := #[121] } ++ { data := #[32] } ++ val)))) == 1 then
      (bif Nat.ble (ByteArray.size { data := #[32] } + ByteArray.size (decB a ++ { data := #[32] } ++ { data := #[121] } ++ { data := #[32] } ++ val)) 9223372036854775807 then
       (((.bool (0 == 0)) : Value) = (.bool true)) ∧
       (((.int IntKind.i64 0) : Value) = (.int IntKind.i64 0)) ∧
       (((.agg ⟨[(.int IntKind.i64 7), (.int IntKind.i64 a), (.int IntKind.i64 1), (.string ({ data := #[] })), (.string val)]⟩) : Value) = (.agg ⟨[(.int IntKind.i64 7), (.int IntKind.i64 a), (.int IntKind.i64 1), (.string ({ data := #[] })), (.string val)]⟩)) ∧
       (((.string val) : Value) = (.string val)) ∧
       (((.pointer (some ⟨26, 4, none⟩)) : Value) = (.pointer (some ⟨26, 4, none⟩))) ∧
       (((.int IntKind.i64 1) : Value) = (.int IntKind.i64 1)) ∧
       (((.int IntKind.i64 1) : Value) = (.int IntKind.i64 1)) ∧
       (((.pointer (some ⟨26, 2, none⟩)) : Value) = (.pointer (some ⟨26, 2, none⟩))) ∧
       (((.int IntKind.i64 a) : Value) = (.int IntKind.i64 a)) ∧
       (((.pointer (some ⟨26, 1, none⟩)) : Value) = (.pointer (some ⟨26, 1, none⟩))) ∧
       (((.int IntKind.i64 7) : Value) = (.int IntKind.i64 7)) ∧
       (((.pointer (some ⟨26, 0, none⟩)) : Value) = (.pointer (some ⟨26, 0, none⟩))) ∧
       (((.bool (0 == 0)) : Value) = (.bool true)) ∧
       (((.int IntKind.i64 0) : Value) = (.int IntKind.i64 0)) ∧
       (bif !(7 == 7 && (a == a && (1 == 1 && (ByteArray.toList { data := #[] } == ByteArray.toList ByteArray.empty && (ByteArray.toList val == ByteArray.toList val && true))))) then
        (Q (.int IntKind.i64 2) [])
       else
        (bif Nat.ble (ByteArray.size { data := #[99, 114, 97, 115, 104] } + ByteArray.size ({ data := #[32] } ++ (decB a ++ { data := #[32] } ++ { data := #[121] } ++ { data := #[32] } ++ val))) 9223372036854775807 then
         (Q (.int IntKind.i64 0) [])
        else
         False))
      else
       False)
     else
      (bif List.length (Prod.snd (Prod.snd (plC (decB a ++ { data := #[32] } ++ { data := #[121] } ++ { data := #[32] } ++ val)))) == 2 then
       (bif Nat.ble (ByteArray.size { data := #[32] } + ByteArray.size (decB a ++ { data := #[32] } ++ { data := #[121] } ++ { data := #[32] } ++ val)) 9223372036854775807 then
        (((.bool (0 == 0)) : Value) = (.bool true)) ∧
        (((.int IntKind.i64 0) : Value) = (.int IntKind.i64 0)) ∧
        (((.agg ⟨[(.int IntKind.i64 7), (.int IntKind.i64 a), (.int IntKind.i64 1), (.string ({ data := #[] })), (.string val)]⟩) : Value) = (.agg ⟨[(.int IntKind.i64 7), (.int IntKind.i64 a), (.int IntKind.i64 1), (.string ({ data := #[] })), (.string val)]⟩)) ∧
        (((.string val) : Value) = (.string val)) ∧
        (((.pointer (some ⟨26, 4, none⟩)) : Value) = (.pointer (some ⟨26, 4, none⟩))) ∧
        (((.int IntKind.i64 1) : Value) = (.int IntKind.i64 1)) ∧
        (((.int IntKind.i64 1) : Value) = (.int IntKind.i64 1)) ∧
        (((.pointer (some ⟨26, 2, none⟩)) : Value) = (.pointer (some ⟨26, 2, none⟩))) ∧
        (((.int IntKind.i64 a) : Value) = (.int IntKind.i64 a)) ∧
        (((.pointer (some ⟨26, 1, none⟩)) : Value) = (.pointer (some ⟨26, 1, none⟩))) ∧
        (((.int IntKind.i64 7) : Value) = (.int IntKind.i64 7)) ∧
        (((.pointer (some ⟨26, 0, none⟩)) : Value) = (.pointer (some ⟨26, 0, none⟩))) ∧
        (((.bool (0 == 0)) : Value) = (.bool true)) ∧
        (((.int IntKind.i64 0) : Value) = (.int IntKind.i64 0)) ∧
        (bif !(7 == 7 && (a == a && (1 == 1 && (ByteArray.toList { data := #[] } == ByteArray.toList ByteArray.empty && (ByteArray.toList val == ByteArray.toList val && true))))) then
         (Q (.int IntKind.i64 2) [])
        else
         (bif Nat.ble (ByteArray.size { data := #[99, 114, 97, 115, 104] } + ByteArray.size ({ data := #[32] } ++ (decB a ++ { data := #[32] } ++ { data := #[121] } ++ { data := #[32] } ++ val))) 9223372036854775807 then
          (Q (.int IntKind.i64 0) [])
         else
          False))
       else
        False)
      else
       (bif Nat.ble (ByteArray.size { data := #[32] } + ByteArray.size (decB a ++ { data := #[32] } ++ { data := #[121] } ++ { data := #[32] } ++ val)) 9223372036854775807 then
        (((.bool (0 == 0)) : Value) = (.bool true)) ∧
        (((.int IntKind.i64 0) : Value) = (.int IntKind.i64 0)) ∧
        (((.agg ⟨[(.int IntKind.i64 7), (.int IntKind.i64 a), (.int IntKind.i64 1), (.string ({ data := #[] })), (.string val)]⟩) : Value) = (.agg ⟨[(.int IntKind.i64 7), (.int IntKind.i64 a), (.int IntKind.i64 1), (.string ({ data := #[] })), (.string val)]⟩)) ∧
        (((.string val) : Value) = (.string val)) ∧
        (((.pointer (some ⟨26, 4, none⟩)) : Value) = (.pointer (some ⟨26, 4, none⟩))) ∧
        (((.int IntKind.i64 1) : Value) = (.int IntKind.i64 1)) ∧
        (((.int IntKind.i64 1) : Value) = (.int IntKind.i64 1)) ∧
        (((.pointer (some ⟨26, 2, none⟩)) : Value) = (.pointer (some ⟨26, 2, none⟩))) ∧
        (((.int IntKind.i64 a) : Value) = (.int IntKind.i64 a)) ∧
        (((.pointer (some ⟨26, 1, none⟩)) : Value) = (.pointer (some ⟨26, 1, none⟩))) ∧
        (((.int IntKind.i64 7) : Value) = (.int IntKind.i64 7)) ∧
        (((.pointer (some ⟨26, 0, none⟩)) : Value) = (.pointer (some ⟨26, 0, none⟩))) ∧
        (((.bool (0 == 0)) : Value) = (.bool true)) ∧
        (((.int IntKind.i64 0) : Value) = (.int IntKind.i64 0)) ∧
        (bif !(7 == 7 && (a == a && (1 == 1 && (ByteArray.toList { data := #[] } == ByteArray.toList ByteArray.empty && (ByteArray.toList val == ByteArray.toList val && true))))) then
         (Q (.int IntKind.i64 2) [])
        else
         (bif Nat.ble (ByteArray.size { data := #[99, 114, 97, 115, 104] } + ByteArray.size ({ data := #[32] } ++ (decB a ++ { data := #[32] } ++ { data := #[121] } ++ { data := #[32] } ++ val))) 9223372036854775807 then
          (Q (.int IntKind.i64 0) [])
         else
          False))
       else
        False)))
    else
     False)
   else
    False)
  else
   False)
 else
  False)) := by kernel_rfl
end Go.Ideal
