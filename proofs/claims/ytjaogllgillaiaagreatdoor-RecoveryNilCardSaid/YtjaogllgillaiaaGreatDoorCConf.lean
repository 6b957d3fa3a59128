/-
  Part of the proof: the machine that runs a program by fixed orders, and that each of its runs is a run of the model; or a run of it in parts. No conditions.
-/
import Derived.Test.YtjaogllgillaiaaGreatDoorIdCtx
import Derived.Test.YtjaogllgillaiaaGreatDoorTabD
import Derived.Test.YtjaogllgillaiaaGreatDoorProg
set_option maxRecDepth 1000000
namespace Go.Ideal
open Go.Proofs
noncomputable def st (f : FuncId) (n : Nat) (args : List Value) (H : IHeap) : Cfg := startC f (fillTmps 0 args .leaf) n (pcOf Tryz.prog f []) H
noncomputable def X0 : Ctx := ctxI Tryz.prog tabLaid []
noncomputable def cfgV (s z r w k v p : Int) : Value := .agg ⟨[.int .i64 s, .int .i64 z, .int .i64 r, .int .i64 w, .int .i64 k, .int .i64 v, .int .i64 p]⟩
theorem vc_configCheck (s z r w k v p : Int) (Q : Value → List (Option IObj) → Prop) : VC X0 52 [] Q 1000 (st 52 55 [cfgV s z r w k v p] (heap0 tabLaid 10)) = (
 (((.int IntKind.i64 0) : Value) = (.int IntKind.i64 0)) ∧
 (((.agg ⟨[(.int IntKind.i64 p), (.int IntKind.i64 1), (.int IntKind.i64 2)]⟩) : Value) = (.agg ⟨[(.int IntKind.i64 p), (.int IntKind.i64 1), (.int IntKind.i64 2)]⟩)) ∧
 (((.int IntKind.i64 p) : Value) = (.int IntKind.i64 p)) ∧
 (((.pointer (some ⟨10, 6, none⟩)) : Value) = (.pointer (some ⟨10, 6, none⟩))) ∧
 (((.agg ⟨[(.int IntKind.i64 s), (.int IntKind.i64 z), (.int IntKind.i64 r), (.int IntKind.i64 w), (.int IntKind.i64 k), (.int IntKind.i64 v), (.int IntKind.i64 p)]⟩) : Value) = (.agg ⟨[(.int IntKind.i64 s), (.int IntKind.i64 z), (.int IntKind.i64 r), (.int IntKind.i64 w), (.int IntKind.i64 k), (.int IntKind.i64 v), (.int IntKind.i64 p)]⟩)) ∧
 (((.int IntKind.i64 w) : Value) = (.int IntKind.i64 w)) ∧
 (((.pointer (some ⟨10, 3, none⟩)) : Value) = (.pointer (some ⟨10, 3, none⟩))) ∧
 (((.int IntKind.i64 z) : Value) = (.int IntKind.i64 z)) ∧
 (((.pointer (some ⟨10, 1, none⟩)) : Value) = (.pointer (some ⟨10, 1, none⟩))) ∧
 (((.agg ⟨[(.int IntKind.i64 v), (.int IntKind.i64 0), (.int IntKind.i64 512)]⟩) : Value) = (.agg ⟨[(.int IntKind.i64 v), (.int IntKind.i64 0), (.int IntKind.i64 512)]⟩)) ∧
 (((.int IntKind.i64 v) : Value) = (.int IntKind.i64 v)) ∧
 (((.pointer (some ⟨10, 5, none⟩)) : Value) = (.pointer (some ⟨10, 5, none⟩))) ∧
 (((.agg ⟨[(.int IntKind.i64 k), (.int IntKind.i64 1), (.int IntKind.i64 32)]⟩) : Value) = (.agg ⟨[(.int IntKind.i64 k), (.int IntKind.i64 1), (.int IntKind.i64 32)]⟩)) ∧
 (((.int IntKind.i64 k) : Value) = (.int IntKind.i64 k)) ∧
 (((.pointer (some ⟨10, 4, none⟩)) : Value) = (.pointer (some ⟨10, 4, none⟩))) ∧
 (((.agg ⟨[(.int IntKind.i64 s), (.int IntKind.i64 (IntKind.wrap IntKind.i64 (r + 2))), (.int IntKind.i64 32)]⟩) : Value) = (.agg ⟨[(.int IntKind.i64 s), (.int IntKind.i64 (IntKind.wrap IntKind.i64 (r + 2))), (.int IntKind.i64 32)]⟩)) ∧
 (((.int IntKind.i64 (IntKind.wrap IntKind.i64 (r + 2))) : Value) = (.int IntKind.i64 (IntKind.wrap IntKind.i64 (r + 2)))) ∧
 (((.int IntKind.i64 r) : Value) = (.int IntKind.i64 r)) ∧
 (((.pointer (some ⟨10, 2, none⟩)) : Value) = (.pointer (some ⟨10, 2, none⟩))) ∧
 (((.int IntKind.i64 s) : Value) = (.int IntKind.i64 s)) ∧
 (((.pointer (some ⟨10, 0, none⟩)) : Value) = (.pointer (some ⟨10, 0, none⟩))) ∧
 (((.agg ⟨[(.int IntKind.i64 r), (.int IntKind.i64 2), (.int IntKind.i64 8)]⟩) : Value) = (.agg ⟨[(.int IntKind.i64 r), (.int IntKind.i64 2), (.int IntKind.i64 8)]⟩)) ∧
 (((.int IntKind.i64 r) : Value) = (.int IntKind.i64 r)) ∧
 (((.pointer (some ⟨10, 2, none⟩)) : Value) = (.pointer (some ⟨10, 2, none⟩))) ∧
 (((.agg ⟨[(.int IntKind.i64 z), (.int IntKind.i64 (IntKind.wrap IntKind.i64 (16 + IntKind.wrap IntKind.i64 (IntKind.wrap IntKind.i64 (16 + k) + v)))), (.int IntKind.i64 8192)]⟩) : Value) = (.agg ⟨[(.int IntKind.i64 z), (.int IntKind.i64 (IntKind.wrap IntKind.i64 (16 + IntKind.wrap IntKind.i64 (IntKind.wrap IntKind.i64 (16 + k) + v)))), (.int IntKind.i64 8192)]⟩)) ∧
 (((.int IntKind.i64 (IntKind.wrap IntKind.i64 (16 + IntKind.wrap IntKind.i64 (IntKind.wrap IntKind.i64 (16 + k) + v)))) : Value) = (.int IntKind.i64 (IntKind.wrap IntKind.i64 (16 + IntKind.wrap IntKind.i64 (IntKind.wrap IntKind.i64 (16 + k) + v))))) ∧
 (((.int IntKind.i64 0) : Value) = (.int IntKind.i64 0)) ∧
 (((.agg ⟨[(.int IntKind.i64 p), (.int IntKind.i64 1), (.int IntKind.i64 2)]⟩) : Value) = (.agg ⟨[(.int IntKind.i64 p), (.int IntKind.i64 1), (.int IntKind.i64 2)]⟩)) ∧
 (((.int IntKind.i64 p) : Value) = (.int IntKind.i64 p)) ∧
 (((.pointer (some ⟨10, 6, none⟩)) : Value) = (.pointer (some ⟨10, 6, none⟩))) ∧
 (((.int IntKind.i64 w) : Value) = (.int IntKind.i64 w)) ∧
 (((.pointer (some ⟨10, 3, none⟩)) : Value) = (.pointer (some ⟨10, 3, none⟩))) ∧
 (((.int IntKind.i64 z) : Value) = (.int IntKind.i64 z)) ∧
 (((.pointer (some ⟨10, 1, none⟩)) : Value) = (.pointer (some ⟨10, 1, none⟩))) ∧
 (((.agg ⟨[(.int IntKind.i64 v), (.int IntKind.i64 0), (.int IntKind.i64 512)]⟩) : Value) = (.agg ⟨[(.int IntKind.i64 v), (.int IntKind.i64 0), (.int IntKind.i64 512)]⟩)) ∧
 (((.int IntKind.i64 v) : Value) = (.int IntKind.i64 v)) ∧
 (((.pointer (some ⟨10, 5, none⟩)) : Value) = (.pointer (some ⟨10, 5, none⟩))) ∧
 (((.agg ⟨[(.int IntKind.i64 k), (.int IntKind.i64 1), (.int IntKind.i64 32)]⟩) : Value) = (.agg ⟨[(.int IntKind.i64 k), (.int IntKind.i64 1), (.int IntKind.i64 32)]⟩)) ∧
 (((.int IntKind.i64 k) : Value) = (.int IntKind.i64 k)) ∧
 (((.pointer (some ⟨10, 4, none⟩)) : Value) = (.pointer (some ⟨10, 4, none⟩))) ∧
 (((.agg ⟨[(.int IntKind.i64 s), (.int IntKind.i64 (IntKind.wrap IntKind.i64 (r + 2))), (.int IntKind.i64 32)]⟩) : Value) = (.agg ⟨[(.int IntKind.i64 s), (.int IntKind.i64 (IntKind.wrap IntKind.i64 (r + 2))), (.int IntKind.i64 32)]⟩)) ∧
 (((.int IntKind.i64 (IntKind.wrap IntKind.i64 (r + 2))) : Value) = (.int IntKind.i64 (IntKind.wrap IntKind.i64 (r + 2)))) ∧
 (((.int IntKind.i64 r) : Value) = (.int IntKind.i64 r)) ∧
 (((.pointer (some ⟨10, 2, none⟩)) : Value) = (.pointer (some ⟨10, 2, none⟩))) ∧
 (((.int IntKind.i64 s) : Value) = (.int IntKind.i64 s)) ∧
 (((.pointer (some ⟨10, 0, none⟩)) : Value) = (.pointer (some ⟨10, 0, none⟩))) ∧
 (((.agg ⟨[(.int IntKind.i64 r), (.int IntKind.i64 2), (.int IntKind.i64 8)]⟩) : Value) = (.agg ⟨[(.int IntKind.i64 r), (.int IntKind.i64 2), (.int IntKind.i64 8)]⟩)) ∧
 (((.int IntKind.i64 r) : Value) = (.int IntKind.i64 r)) ∧
 (((.pointer (some ⟨10, 2, none⟩)) : Value) = (.pointer (some ⟨10, 2, none⟩))) ∧
 (bif decide (r < 2) then
  (Q (.int IntKind.i64 2) [])
 else
  (bif decide (r > 8) then
   (Q (.int IntKind.i64 2) [])
  else
   (bif decide (s < IntKind.wrap IntKind.i64 (r + 2)) then
    (Q (.int IntKind.i64 2) [])
   else
    (bif decide (s > 32) then
     (Q (.int IntKind.i64 2) [])
    else
     (bif decide (k < 1) then
      (Q (.int IntKind.i64 2) [])
     else
      (bif decide (k > 32) then
       (Q (.int IntKind.i64 2) [])
      else
       (bif decide (v < 0) then
        (Q (.int IntKind.i64 2) [])
       else
        (bif decide (v > 512) then
         (Q (.int IntKind.i64 2) [])
        else
         (bif decide (z < IntKind.wrap IntKind.i64 (16 + IntKind.wrap IntKind.i64 (IntKind.wrap IntKind.i64 (16 + k) + v))) then
          (Q (.int IntKind.i64 2) [])
         else
          (bif decide (z > 8192) then
           (Q (.int IntKind.i64 2) [])
          else
           (bif decide (w < IntKind.wrap IntKind.i64 (2 * IntKind.wrap IntKind.i64 (IntKind.wrap IntKind.i64 (IntKind.wrap IntKind.i64 (16 + k) + v) + 16))) then
            (Q (.int IntKind.i64 2) [])
           else
            (bif decide (w > 65536) then
             (Q (.int IntKind.i64 2) [])
            else
             (bif decide (p < 1) then
              (Q (.int IntKind.i64 2) [])
             else
              (bif decide (p > 2) then
               (Q (.int IntKind.i64 2) [])
              else
               (Q (.int IntKind.i64 0) [])))))))))))))))) := by kernel_rfl
end Go.Ideal
