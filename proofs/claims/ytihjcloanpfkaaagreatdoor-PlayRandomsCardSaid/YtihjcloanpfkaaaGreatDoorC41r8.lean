/-
  Part of the proof: the machine that runs a program by fixed orders, and that each of its runs is a run of the model; or a run of it in parts. No conditions.
-/
import Derived.Test.YtihjcloanpfkaaaGreatDoorC41r7
set_option maxRecDepth 1000000
namespace Go.Ideal
open Go.Proofs
noncomputable def pfD : Pf := fun f => bif Nat.beq f 52 then some (footPf tabLaid 20 [true] rbelowG) else bif Nat.beq f 36 then some (pDgB 100000) else none
noncomputable abbrev dFs : List (FuncId × IFun) := [(52, footF tabLaid 20 [true] rbelowG), (36, fDgB 100000)]
noncomputable def XD : Ctx := ctxI Tryz.prog tabLaid dFs
noncomputable def p21 : Value := .pointer (some ⟨21, 0, none⟩)
noncomputable def p22 : Value := .pointer (some ⟨22, 0, none⟩)
/-- crash at the head of its loop, nothing written yet. -/
noncomputable def rcT (x s z r w k v p : Int) (cr : Bool) (a b n : Int) : Cfg :=
  ⟨⟨54, mkT [(0, pd), (2, p21), (3, p22), (4, .int .i64 n), (5, .int .i64 0)], 40, [.code (pcOf Tryz.prog 54 [1, 1, 1, 0, 1, 0, 0]), .inLoop (pcOf Tryz.prog 54 [1, 1, 1, 0, 1, 0, 0]), .inBlock 0, .code (pcOf Tryz.prog 54 [1, 1, 1, 1])], [], false, .normal, none⟩, [],
    ((hp0.alloc (draws x s z r w k v p cr)).alloc (opO 0 0 0 ByteArray.empty ByteArray.empty)).alloc (opO 7 a b ByteArray.empty ByteArray.empty)⟩
def rcS : Stop := ⟨54, 0, 3, 21, [20], [0, 2, 3, 4, 5]⟩
theorem vc_rc0 (x s z r w k v p : Int) (cr : Bool) (Q : Value → List (Option IObj) → Prop) (R : Cfg → Prop) : VCs XD pfD 54 [20] rcS Q R 2000 (st 54 40 [pd] (hp0.alloc (draws x s z r w k v p cr))) = (
 ((0 : Int) < 12 ∧ u32In x) ∧
 ((0 : Int) < 2 ∧ u32In (nx x)) ∧
 ((0 : Int) < 3 ∧ u32In (nx (nx x))) ∧
 (R (rcT (nx (nx (nx x))) s z r w k v p cr (dr x 12) (dr (nx x) 2) (IntKind.wrap IntKind.i64 (1 + dr (nx (nx x)) 3))))) := by kernel_rfl
theorem vc_rc1 (x s z r w k v p : Int) (cr : Bool) (a b : Int) (Q : Value → List (Option IObj) → Prop) : VCp XD pfD 54 [20] Q 2000 (rcT x s z r w k v p cr a b 1) = (
 (0 < IntKind.wrap IntKind.i64 (z + 1) ∧ u32In x) ∧
 (((.string ByteArray.empty) : Value) = (.string ByteArray.empty)) ∧
 (((.pointer (some ⟨22, 4, none⟩)) : Value) = (.pointer (some ⟨22, 4, none⟩))) ∧
 (0 ≤ IntKind.wrap IntKind.u64 (dr x (IntKind.wrap IntKind.i64 (z + 1))) ∧ IntKind.wrap IntKind.u64 (dr x (IntKind.wrap IntKind.i64 (z + 1))) < 100000) ∧
 (((.string ByteArray.empty) : Value) = (.string ByteArray.empty)) ∧
 (((.pointer (some ⟨22, 4, none⟩)) : Value) = (.pointer (some ⟨22, 4, none⟩))) ∧
 (bif Nat.ble (ByteArray.size ByteArray.empty + ByteArray.size (decB (IntKind.wrap IntKind.u64 (dr x (IntKind.wrap IntKind.i64 (z + 1)))))) 9223372036854775807 then
  (Q (.agg ⟨[(.int IntKind.i64 7), (.int IntKind.i64 a), (.int IntKind.i64 b), (.string ByteArray.empty), (.string (ByteArray.empty ++ decB (IntKind.wrap IntKind.u64 (dr x (IntKind.wrap IntKind.i64 (z + 1))))))]⟩) [some (.cells [(.int IntKind.u64 (nx x)), (.int IntKind.i64 s), (.int IntKind.i64 z), (.int IntKind.i64 r), (.int IntKind.i64 w), (.int IntKind.i64 k), (.int IntKind.i64 v), (.int IntKind.i64 p), (.bool cr)] 0 false)])
 else
  False)) := by kernel_rfl
theorem vc_rc2 (x s z r w k v p : Int) (cr : Bool) (a b : Int) (Q : Value → List (Option IObj) → Prop) : VCp XD pfD 54 [20] Q 2000 (rcT x s z r w k v p cr a b 2) = (
 (0 < IntKind.wrap IntKind.i64 (z + 1) ∧ u32In x) ∧
 (((.string ByteArray.empty) : Value) = (.string ByteArray.empty)) ∧
 (((.pointer (some ⟨22, 4, none⟩)) : Value) = (.pointer (some ⟨22, 4, none⟩))) ∧
 (0 ≤ IntKind.wrap IntKind.u64 (dr x (IntKind.wrap IntKind.i64 (z + 1))) ∧ IntKind.wrap IntKind.u64 (dr x (IntKind.wrap IntKind.i64 (z + 1))) < 100000) ∧
 (((.string ByteArray.empty) : Value) = (.string ByteArray.empty)) ∧
 (((.pointer (some ⟨22, 4, none⟩)) : Value) = (.pointer (some ⟨22, 4, none⟩))) ∧
 (bif Nat.ble (ByteArray.size ByteArray.empty + ByteArray.size (decB (IntKind.wrap IntKind.u64 (dr x (IntKind.wrap IntKind.i64 (z + 1)))))) 9223372036854775807 then
  (bif Nat.ble (ByteArray.size (ByteArray.empty ++ decB (IntKind.wrap IntKind.u64 (dr x (IntKind.wrap IntKind.i64 (z + 1))))) + ByteArray.size { data := #[44] }) 9223372036854775807 then
   (0 < IntKind.wrap IntKind.i64 (z + 1) ∧ u32In (nx x)) ∧
   (((.string (ByteArray.empty ++ decB (IntKind.wrap IntKind.u64 (dr x (IntKind.wrap IntKind.i64 (z + 1)))) ++ { data := #[44] })) : Value) = (.string (ByteArray.empty ++ decB (IntKind.wrap IntKind.u64 (dr x (IntKind.wrap IntKind.i64 (z + 1)))) ++ { data := #[44] }))) ∧
   (((.pointer (some ⟨22, 4, none⟩)) : Value) = (.pointer (some ⟨22, 4, none⟩))) ∧
   (0 ≤ IntKind.wrap IntKind.u64 (dr (nx x) (IntKind.wrap IntKind.i64 (z + 1))) ∧ IntKind.wrap IntKind.u64 (dr (nx x) (IntKind.wrap IntKind.i64 (z + 1))) < 100000) ∧
   (((.string (ByteArray.empty ++ decB (IntKind.wrap IntKind.u64 (dr x (IntKind.wrap IntKind.i64 (z + 1)))) ++ { data := #[44] })) : Value) = (.string (ByteArray.empty ++ decB (IntKind.wrap IntKind.u64 (dr x (IntKind.wrap IntKind.i64 (z + 1)))) ++ { data := #[44] }))) ∧
   (((.pointer (some ⟨22, 4, none⟩)) : Value) = (.pointer (some ⟨22, 4, none⟩))) ∧
   (bif Nat.ble (ByteArray.size (ByteArray.empty ++ decB (IntKind.wrap IntKind.u64 (dr x (IntKind.wrap IntKind.i64 (z + 1)))) ++ { data := #[44] }) + ByteArray.size (decB (IntKind.wrap IntKind.u64 (dr (nx x) (IntKind.wrap IntKind.i64 (z + 1)))))) 9223372036854775807 then
    (Q (.agg ⟨[(.int IntKind.i64 7), (.int IntKind.i64 a), (.int IntKind.i64 b), (.string ByteArray.empty), (.string (ByteArray.empty ++ decB (IntKind.wrap IntKind.u64 (dr x (IntKind.wrap IntKind.i64 (z + 1)))) ++ { data := #[44] } ++ decB (IntKind.wrap IntKind.u64 (dr (nx x) (IntKind.wrap IntKind.i64 (z + 1))))))]⟩) [some (.cells [(.int IntKind.u64 (nx (nx x))), (.int IntKind.i64 s), (.int IntKind.i64 z), (.int IntKind.i64 r), (.int IntKind.i64 w), (.int IntKind.i64 k), (.int IntKind.i64 v), (.int IntKind.i64 p), (.bool cr)] 0 false)])
   else
    False)
  else
   False)
 else
  False)) := by kernel_rfl
theorem vc_rc3 (x s z r w k v p : Int) (cr : Bool) (a b : Int) (Q : Value → List (Option IObj) → Prop) : VCp XD pfD 54 [20] Q 2000 (rcT x s z r w k v p cr a b 3) = (
 (0 < IntKind.wrap IntKind.i64 (z + 1) ∧ u32In x) ∧
 (((.string ByteArray.empty) : Value) = (.string ByteArray.empty)) ∧
 (((.pointer (some ⟨22, 4, none⟩)) : Value) = (.pointer (some ⟨22, 4, none⟩))) ∧
 (0 ≤ IntKind.wrap IntKind.u64 (dr x (IntKind.wrap IntKind.i64 (z + 1))) ∧ IntKind.wrap IntKind.u64 (dr x (IntKind.wrap IntKind.i64 (z + 1))) < 100000) ∧
 (((.string ByteArray.empty) : Value) = (.string ByteArray.empty)) ∧
 (((.pointer (some ⟨22, 4, none⟩)) : Value) = (.pointer (some ⟨22, 4, none⟩))) ∧
 (bif Nat.ble (ByteArray.size ByteArray.empty + ByteArray.size (decB (IntKind.wrap IntKind.u64 (dr x (IntKind.wrap IntKind.i64 (z + 1)))))) 9223372036854775807 then
  (bif Nat.ble (ByteArray.size (ByteArray.empty ++ decB (IntKind.wrap IntKind.u64 (dr x (IntKind.wrap IntKind.i64 (z + 1))))) + ByteArray.size { data := #[44] }) 9223372036854775807 then
   (0 < IntKind.wrap IntKind.i64 (z + 1) ∧ u32In (nx x)) ∧
   (((.string (ByteArray.empty ++ decB (IntKind.wrap IntKind.u64 (dr x (IntKind.wrap IntKind.i64 (z + 1)))) ++ { data := #[44] })) : Value) = (.string (ByteArray.empty ++ decB (IntKind.wrap IntKind.u64 (dr x (IntKind.wrap IntKind.i64 (z + 1)))) ++ { data := #[44] }))) ∧
   (((.pointer (some ⟨22, 4, none⟩)) : Value) = (.pointer (some ⟨22, 4, none⟩))) ∧
   (0 ≤ IntKind.wrap IntKind.u64 (dr (nx x) (IntKind.wrap IntKind.i64 (z + 1))) ∧ IntKind.wrap IntKind.u64 (dr (nx x) (IntKind.wrap IntKind.i64 (z + 1))) < 100000) ∧
   (((.string (ByteArray.empty ++ decB (IntKind.wrap IntKind.u64 (dr x (IntKind.wrap IntKind.i64 (z + 1)))) ++ { data := #[44] })) : Value) = (.string (ByteArray.empty ++ decB (IntKind.wrap IntKind.u64 (dr x (IntKind.wrap IntKind.i64 (z + 1)))) ++ { data := #[44] }))) ∧
   (((.pointer (some ⟨22, 4, none⟩)) : Value) = (.pointer (some ⟨22, 4, none⟩))) ∧
   (bif Nat.ble (ByteArray.size (ByteArray.empty ++ decB (IntKind.wrap IntKind.u64 (dr x (IntKind.wrap IntKind.i64 (z + 1)))) ++ { data := #[44] }) + ByteArray.size (decB (IntKind.wrap IntKind.u64 (dr (nx x) (IntKind.wrap IntKind.i64 (z + 1)))))) 9223372036854775807 then
    (bif Nat.ble (ByteArray.size (ByteArray.empty ++ decB (IntKind.wrap IntKind.u64 (dr x (IntKind.wrap IntKind.i64 (z + 1)))) ++ { data := #[44] } ++ decB (IntKind.wrap IntKind.u64 (dr (nx x) (IntKind.wrap IntKind.i64 (z + 1))))) + ByteArray.size { data := #[44] }) 9223372036854775807 then
     (0 < IntKind.wrap IntKind.i64 (z + 1) ∧ u32In (nx (nx x))) ∧
     (((.string (ByteArray.empty ++ decB (IntKind.wrap IntKind.u64 (dr x (IntKind.wrap IntKind.i64 (z + 1)))) ++ { data := #[44] } ++ decB (IntKind.wrap IntKind.u64 (dr (nx x) (IntKind.wrap IntKind.i64 (z + 1)))) ++ { data := #[44] })) : Value) = (.string (ByteArray.empty ++ decB (IntKind.wrap IntKind.u64 (dr x (IntKind.wrap IntKind.i64 (z + 1)))) ++ { data := #[44] } ++ decB (IntKind.wrap IntKind.u64 (dr (nx x) (IntKind.wrap IntKind.i64 (z + 1)))) ++ { data := #[44] }))) ∧
     (((.pointer (some ⟨22, 4, none⟩)) : Value) = (.pointer (some ⟨22, 4, none⟩))) ∧
     (0 ≤ IntKind.wrap IntKind.u64 (dr (nx (nx x)) (IntKind.wrap IntKind.i64 (z + 1))) ∧ IntKind.wrap IntKind.u64 (dr (nx (nx x)) (IntKind.wrap IntKind.i64 (z + 1))) < 100000) ∧
     (((.string (ByteArray.empty ++ decB (IntKind.wrap IntKind.u64 (dr x (IntKind.wrap IntKind.i64 (z + 1)))) ++ { data := #[44] } ++ decB (IntKind.wrap IntKind.u64 (dr (nx x) (IntKind.wrap IntKind.i64 (z + 1)))) ++ { data := #[44] })) : Value) = (.string (ByteArray.empty ++ decB (IntKind.wrap IntKind.u64 (dr x (IntKind.wrap IntKind.i64 (z + 1)))) ++ { data := #[44] } ++ decB (IntKind.wrap IntKind.u64 (dr (nx x) (IntKind.wrap IntKind.i64 (z + 1)))) ++ { data := #[44] }))) ∧
     (((.pointer (some ⟨22, 4, none⟩)) : Value) = (.pointer (some ⟨22, 4, none⟩))) ∧
     (bif Nat.ble (ByteArray.size (ByteArray.empty ++ decB (IntKind.wrap IntKind.u64 (dr x (IntKind.wrap IntKind.i64 (z + 1)))) ++ { data := #[44] } ++ decB (IntKind.wrap IntKind.u64 (dr (nx x) (IntKind.wrap IntKind.i64 (z + 1)))) ++ { data := #[44] }) + ByteArray.size (decB (IntKind.wrap IntKind.u64 (dr (nx (nx x)) (IntKind.wrap IntKind.i64 (z + 1)))))) 9223372036854775807 then
      (Q (.agg ⟨[(.int IntKind.i64 7), (.int IntKind.i64 a), (.int IntKind.i64 b), (.string ByteArray.empty), (.string (ByteArray.empty ++ decB (IntKind.wrap IntKind.u64 (dr x (IntKind.wrap IntKind.i64 (z + 1)))) ++ { data := #[44] } ++ decB (IntKind.wrap IntKind.u64 (dr (nx x) (IntKind.wrap IntKind.i64 (z + 1)))) ++ { data := #[44] } ++ decB (IntKind.wrap IntKind.u64 (dr (nx (nx x)) (IntKind.wrap IntKind.i64 (z + 1))))))]⟩) [some (.cells [(.int IntKind.u64 (nx (nx (nx x)))), (.int IntKind.i64 s), (.int IntKind.i64 z), (.int IntKind.i64 r), (.int IntKind.i64 w), (.int IntKind.i64 k), (.int IntKind.i64 v), (.int IntKind.i64 p), (.bool cr)] 0 false)])
     else
      False)
    else
     False)
   else
    False)
  else
   False)
 else
  False)) := by kernel_rfl
end Go.Ideal
