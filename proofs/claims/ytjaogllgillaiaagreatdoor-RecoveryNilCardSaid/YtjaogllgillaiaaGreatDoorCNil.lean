/-
  Part of the proof: the machine that runs a program by fixed orders, and that each of its runs is a run of the model; or a run of it in parts. No conditions.
-/
import Derived.Test.YtjaogllgillaiaaGreatDoorCConf2
import Derived.Test.YtjaogllgillaiaaGreatDoorWrkK
set_option maxRecDepth 1000000
namespace Go.Ideal
open Go.Proofs
noncomputable def XN (g : Int → Int → Int → Int → Int → Int → Int → Int) : Ctx := ctxI Tryz.prog tabLaid [(13, knownF wrkK), (52, fConf g)]
theorem vc_nil (g : Int → Int → Int → Int → Int → Int → Int → Int) (s z r w k v p : Int) (Q : Value → List (Option IObj) → Prop) : VC (XN g) 3 [] Q 3000 (st 3 72 [cfgV s z r w k v p] (heap0 tabLaid 10)) = (
 (((.pointer none) : Value) = (.pointer none)) ∧
 (bif g s z r w k v p == 0 then
  (((.int IntKind.i64 s) : Value) = (.int IntKind.i64 s)) ∧
  (((.pointer (some ⟨15, 0, none⟩)) : Value) = (.pointer (some ⟨15, 0, none⟩))) ∧
  (((.pointer none) : Value) = (.pointer none)) ∧
  (bif s == 0 then
   (((.pointer (some ⟨11, 0, none⟩)) : Value) = (.pointer (some ⟨11, 0, none⟩))) ∧
   (bif g s z r w k v p == 0 then
    (((.int IntKind.i64 s) : Value) = (.int IntKind.i64 s)) ∧
    (((.pointer (some ⟨22, 0, none⟩)) : Value) = (.pointer (some ⟨22, 0, none⟩))) ∧
    (((.pointer (some ⟨11, 0, none⟩)) : Value) = (.pointer (some ⟨11, 0, none⟩))) ∧
    (bif s == 0 then
     (Q (.bool true) [])
    else
     (Q (.bool true) []))
   else
    (((.pointer (some ⟨11, 0, none⟩)) : Value) = (.pointer (some ⟨11, 0, none⟩))) ∧
    (Q (.bool true) []))
  else
   (((.pointer (some ⟨11, 0, none⟩)) : Value) = (.pointer (some ⟨11, 0, none⟩))) ∧
   (bif g s z r w k v p == 0 then
    (((.int IntKind.i64 s) : Value) = (.int IntKind.i64 s)) ∧
    (((.pointer (some ⟨22, 0, none⟩)) : Value) = (.pointer (some ⟨22, 0, none⟩))) ∧
    (((.pointer (some ⟨11, 0, none⟩)) : Value) = (.pointer (some ⟨11, 0, none⟩))) ∧
    (bif s == 0 then
     (Q (.bool true) [])
    else
     (Q (.bool true) []))
   else
    (((.pointer (some ⟨11, 0, none⟩)) : Value) = (.pointer (some ⟨11, 0, none⟩))) ∧
    (Q (.bool true) [])))
 else
  (((.pointer none) : Value) = (.pointer none)) ∧
  (((.pointer (some ⟨11, 0, none⟩)) : Value) = (.pointer (some ⟨11, 0, none⟩))) ∧
  (bif g s z r w k v p == 0 then
   (((.int IntKind.i64 s) : Value) = (.int IntKind.i64 s)) ∧
   (((.pointer (some ⟨22, 0, none⟩)) : Value) = (.pointer (some ⟨22, 0, none⟩))) ∧
   (((.pointer (some ⟨11, 0, none⟩)) : Value) = (.pointer (some ⟨11, 0, none⟩))) ∧
   (bif s == 0 then
    (Q (.bool true) [])
   else
    (Q (.bool true) []))
  else
   (((.pointer (some ⟨11, 0, none⟩)) : Value) = (.pointer (some ⟨11, 0, none⟩))) ∧
   (Q (.bool true) [])))) := by kernel_rfl
end Go.Ideal
