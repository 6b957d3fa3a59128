/-
  Part of the proof: the machine that runs a program by fixed orders, and that each of its runs is a run of the model; or a run of it in parts. No conditions.
-/
import Derived.Test.YtihjcloanpfkaaaGreatDoorC41r5
set_option maxRecDepth 1000000
namespace Go.Ideal
open Go.Proofs
noncomputable def fnV (f : Nat) : Value := .func (.func f) ⟨[]⟩ ⟨[]⟩
noncomputable def recL (cr : Bool) : List Value := [.int .i64 9, .int .i64 1, fnV 46, .int .i64 3, .int .i64 3, fnV 47, .int .i64 3, .int .i64 2, fnV 47, .int .i64 1, .int .i64 4, .nilFunc, .int .i64 1, .int .i64 5, .nilFunc,
  .int .i64 1, (bif cr then .int .i64 8 else .int .i64 5), .nilFunc, .int .i64 1, .int .i64 6, fnV 48, .int .i64 1, (bif cr then .int .i64 7 else .int .i64 5), (bif cr then fnV 49 else .nilFunc)]
noncomputable def recO (cr ro : Bool) : IObj := .cells (recL cr) 3 ro
noncomputable def rs : Value := .slice (some ⟨21, 0, none⟩) 8 8
noncomputable abbrev oFs : List (FuncId × IFun) := (49, footF tabLaid 20 [true, true] fcG) :: bFs
noncomputable def XO : Ctx := ctxI Tryz.prog tabLaid oFs
noncomputable def pfO : Pf := fun f => bif Nat.beq f 49 then some (footPf tabLaid 20 [true, true] fcG) else pfB f
theorem vc_opt (x s z r w k v p : Int) (Q : Value → List (Option IObj) → Prop) : VCp XO pfO 26 [20] Q 4000 (st 26 36 [pd, rs] ((hp0.alloc (dice x s z r w k v p)).alloc (recO true true))) = (
 ((0 : Int) < 20) ∧
 (bif decide (IntKind.wrap IntKind.i64 (dr x 20 - 9) ≥ 0) then
  (bif decide (IntKind.wrap IntKind.i64 (IntKind.wrap IntKind.i64 (dr x 20 - 9) - 3) ≥ 0) then
   (bif decide (IntKind.wrap IntKind.i64 (IntKind.wrap IntKind.i64 (IntKind.wrap IntKind.i64 (dr x 20 - 9) - 3) - 3) ≥ 0) then
    (bif decide (IntKind.wrap IntKind.i64 (IntKind.wrap IntKind.i64 (IntKind.wrap IntKind.i64 (IntKind.wrap IntKind.i64 (dr x 20 - 9) - 3) - 3) - 1) ≥ 0) then
     (bif decide (IntKind.wrap IntKind.i64 (IntKind.wrap IntKind.i64 (IntKind.wrap IntKind.i64 (IntKind.wrap IntKind.i64 (IntKind.wrap IntKind.i64 (dr x 20 - 9) - 3) - 3) - 1) - 1) ≥ 0) then
      (bif decide (IntKind.wrap IntKind.i64 (IntKind.wrap IntKind.i64 (IntKind.wrap IntKind.i64 (IntKind.wrap IntKind.i64 (IntKind.wrap IntKind.i64 (IntKind.wrap IntKind.i64 (dr x 20 - 9) - 3) - 3) - 1) - 1) - 1) ≥ 0) then
       (bif decide (IntKind.wrap IntKind.i64 (IntKind.wrap IntKind.i64 (IntKind.wrap IntKind.i64 (IntKind.wrap IntKind.i64 (IntKind.wrap IntKind.i64 (IntKind.wrap IntKind.i64 (IntKind.wrap IntKind.i64 (dr x 20 - 9) - 3) - 3) - 1) - 1) - 1) - 1) ≥ 0) then
        (bif decide (IntKind.wrap IntKind.i64 (IntKind.wrap IntKind.i64 (IntKind.wrap IntKind.i64 (IntKind.wrap IntKind.i64 (IntKind.wrap IntKind.i64 (IntKind.wrap IntKind.i64 (IntKind.wrap IntKind.i64 (IntKind.wrap IntKind.i64 (dr x 20 - 9) - 3) - 3) - 1) - 1) - 1) - 1) - 1) ≥ 0) then
         (Q (.agg ⟨[(.int IntKind.i64 0), (.int IntKind.i64 0), (.int IntKind.i64 0), (.string ({ data := #[] })), (.string ({ data := #[] }))]⟩) [some (.cells [(.int IntKind.u32 (nx x)), (.int IntKind.i64 s), (.int IntKind.i64 z), (.int IntKind.i64 r), (.int IntKind.i64 w), (.int IntKind.i64 k), (.int IntKind.i64 v), (.int IntKind.i64 p)] 0 false)])
        else
         (0 ≤ z ∧ z ≤ 10000) ∧
         (Q (.agg ⟨[(.int IntKind.i64 7), (.int IntKind.i64 (Prod.fst (Prod.snd (Prod.fst (crS z (nx x)))))), (.int IntKind.i64 (Prod.fst (Prod.snd (Prod.snd (Prod.fst (crS z (nx x))))))), (.string ({ data := #[] })), (.string (Prod.snd (Prod.snd (Prod.snd (Prod.snd (Prod.fst (crS z (nx x))))))))]⟩) [some (.cells [(.int IntKind.u32 (Prod.snd (crS z (nx x)))), (.int IntKind.i64 s), (.int IntKind.i64 z), (.int IntKind.i64 r), (.int IntKind.i64 w), (.int IntKind.i64 k), (.int IntKind.i64 v), (.int IntKind.i64 p)] 0 false)]))
       else
        ((0 : Int) < 2) ∧
        (Q (.agg ⟨[(.int IntKind.i64 6), (.int IntKind.i64 (IntKind.wrap IntKind.i64 (1 + dr (nx x) 2))), (.int IntKind.i64 0), (.string ({ data := #[] })), (.string ({ data := #[] }))]⟩) [some (.cells [(.int IntKind.u32 (nx (nx x))), (.int IntKind.i64 s), (.int IntKind.i64 z), (.int IntKind.i64 r), (.int IntKind.i64 w), (.int IntKind.i64 k), (.int IntKind.i64 v), (.int IntKind.i64 p)] 0 false)]))
      else
       (Q (.agg ⟨[(.int IntKind.i64 8), (.int IntKind.i64 0), (.int IntKind.i64 0), (.string ({ data := #[] })), (.string ({ data := #[] }))]⟩) [some (.cells [(.int IntKind.u32 (nx x)), (.int IntKind.i64 s), (.int IntKind.i64 z), (.int IntKind.i64 r), (.int IntKind.i64 w), (.int IntKind.i64 k), (.int IntKind.i64 v), (.int IntKind.i64 p)] 0 false)]))
     else
      (Q (.agg ⟨[(.int IntKind.i64 5), (.int IntKind.i64 0), (.int IntKind.i64 0), (.string ({ data := #[] })), (.string ({ data := #[] }))]⟩) [some (.cells [(.int IntKind.u32 (nx x)), (.int IntKind.i64 s), (.int IntKind.i64 z), (.int IntKind.i64 r), (.int IntKind.i64 w), (.int IntKind.i64 k), (.int IntKind.i64 v), (.int IntKind.i64 p)] 0 false)]))
    else
     (Q (.agg ⟨[(.int IntKind.i64 4), (.int IntKind.i64 0), (.int IntKind.i64 0), (.string ({ data := #[] })), (.string ({ data := #[] }))]⟩) [some (.cells [(.int IntKind.u32 (nx x)), (.int IntKind.i64 s), (.int IntKind.i64 z), (.int IntKind.i64 r), (.int IntKind.i64 w), (.int IntKind.i64 k), (.int IntKind.i64 v), (.int IntKind.i64 p)] 0 false)]))
   else
    ((0 : Int) < 8) ∧
    (Q (.agg ⟨[(.int IntKind.i64 2), (.int IntKind.i64 0), (.int IntKind.i64 0), (.string ({ data := { toList := List.map (fun n => UInt8.ofNat (Int.toNat n)) [IntKind.wrap IntKind.u8 (97 + IntKind.wrap IntKind.u8 (dr (nx x) 8))] } })), (.string ({ data := #[] }))]⟩) [some (.cells [(.int IntKind.u32 (nx (nx x))), (.int IntKind.i64 s), (.int IntKind.i64 z), (.int IntKind.i64 r), (.int IntKind.i64 w), (.int IntKind.i64 k), (.int IntKind.i64 v), (.int IntKind.i64 p)] 0 false)]))
  else
   ((0 : Int) < 8) ∧
   (Q (.agg ⟨[(.int IntKind.i64 3), (.int IntKind.i64 0), (.int IntKind.i64 0), (.string ({ data := { toList := List.map (fun n => UInt8.ofNat (Int.toNat n)) [IntKind.wrap IntKind.u8 (97 + IntKind.wrap IntKind.u8 (dr (nx x) 8))] } })), (.string ({ data := #[] }))]⟩) [some (.cells [(.int IntKind.u32 (nx (nx x))), (.int IntKind.i64 s), (.int IntKind.i64 z), (.int IntKind.i64 r), (.int IntKind.i64 w), (.int IntKind.i64 k), (.int IntKind.i64 v), (.int IntKind.i64 p)] 0 false)]))
 else
  ((0 : Int) < 8) ∧
  (0 < IntKind.wrap IntKind.i64 (v + 1)) ∧
  ((0 : Int) < 26) ∧
  (0 ≤ dr (nx (nx x)) (IntKind.wrap IntKind.i64 (v + 1)) ∧ dr (nx (nx x)) (IntKind.wrap IntKind.i64 (v + 1)) ≤ 9223372036854775807 ∧ ByteArray.size { data := { toList := List.map (fun n => UInt8.ofNat (Int.toNat n)) [IntKind.wrap IntKind.u8 (65 + IntKind.wrap IntKind.u8 (dr (nx (nx (nx x))) 26))] } } * Int.toNat (dr (nx (nx x)) (IntKind.wrap IntKind.i64 (v + 1))) ≤ 140737488355328) ∧
  (Q (.agg ⟨[(.int IntKind.i64 1), (.int IntKind.i64 0), (.int IntKind.i64 0), (.string ({ data := { toList := List.map (fun n => UInt8.ofNat (Int.toNat n)) [IntKind.wrap IntKind.u8 (97 + IntKind.wrap IntKind.u8 (dr (nx x) 8))] } })), (.string ({ data := { toList := Lib.repeatL (Array.toList (ByteArray.data { data := { toList := List.map (fun n => UInt8.ofNat (Int.toNat n)) [IntKind.wrap IntKind.u8 (65 + IntKind.wrap IntKind.u8 (dr (nx (nx (nx x))) 26))] } })) (Int.toNat (dr (nx (nx x)) (IntKind.wrap IntKind.i64 (v + 1)))) } }))]⟩) [some (.cells [(.int IntKind.u32 (nx (nx (nx (nx x))))), (.int IntKind.i64 s), (.int IntKind.i64 z), (.int IntKind.i64 r), (.int IntKind.i64 w), (.int IntKind.i64 k), (.int IntKind.i64 v), (.int IntKind.i64 p)] 0 false)]))) := by kernel_rfl
theorem vc_opf (x s z r w k v p : Int) (Q : Value → List (Option IObj) → Prop) : VCp XO pfO 26 [20] Q 4000 (st 26 36 [pd, rs] ((hp0.alloc (dice x s z r w k v p)).alloc (recO false true))) = (
 ((0 : Int) < 20) ∧
 (bif decide (IntKind.wrap IntKind.i64 (dr x 20 - 9) ≥ 0) then
  (bif decide (IntKind.wrap IntKind.i64 (IntKind.wrap IntKind.i64 (dr x 20 - 9) - 3) ≥ 0) then
   (bif decide (IntKind.wrap IntKind.i64 (IntKind.wrap IntKind.i64 (IntKind.wrap IntKind.i64 (dr x 20 - 9) - 3) - 3) ≥ 0) then
    (bif decide (IntKind.wrap IntKind.i64 (IntKind.wrap IntKind.i64 (IntKind.wrap IntKind.i64 (IntKind.wrap IntKind.i64 (dr x 20 - 9) - 3) - 3) - 1) ≥ 0) then
     (bif decide (IntKind.wrap IntKind.i64 (IntKind.wrap IntKind.i64 (IntKind.wrap IntKind.i64 (IntKind.wrap IntKind.i64 (IntKind.wrap IntKind.i64 (dr x 20 - 9) - 3) - 3) - 1) - 1) ≥ 0) then
      (bif decide (IntKind.wrap IntKind.i64 (IntKind.wrap IntKind.i64 (IntKind.wrap IntKind.i64 (IntKind.wrap IntKind.i64 (IntKind.wrap IntKind.i64 (IntKind.wrap IntKind.i64 (dr x 20 - 9) - 3) - 3) - 1) - 1) - 1) ≥ 0) then
       (bif decide (IntKind.wrap IntKind.i64 (IntKind.wrap IntKind.i64 (IntKind.wrap IntKind.i64 (IntKind.wrap IntKind.i64 (IntKind.wrap IntKind.i64 (IntKind.wrap IntKind.i64 (IntKind.wrap IntKind.i64 (dr x 20 - 9) - 3) - 3) - 1) - 1) - 1) - 1) ≥ 0) then
        (bif decide (IntKind.wrap IntKind.i64 (IntKind.wrap IntKind.i64 (IntKind.wrap IntKind.i64 (IntKind.wrap IntKind.i64 (IntKind.wrap IntKind.i64 (IntKind.wrap IntKind.i64 (IntKind.wrap IntKind.i64 (IntKind.wrap IntKind.i64 (dr x 20 - 9) - 3) - 3) - 1) - 1) - 1) - 1) - 1) ≥ 0) then
         (Q (.agg ⟨[(.int IntKind.i64 0), (.int IntKind.i64 0), (.int IntKind.i64 0), (.string ({ data := #[] })), (.string ({ data := #[] }))]⟩) [some (.cells [(.int IntKind.u32 (nx x)), (.int IntKind.i64 s), (.int IntKind.i64 z), (.int IntKind.i64 r), (.int IntKind.i64 w), (.int IntKind.i64 k), (.int IntKind.i64 v), (.int IntKind.i64 p)] 0 false)])
        else
         (Q (.agg ⟨[(.int IntKind.i64 5), (.int IntKind.i64 0), (.int IntKind.i64 0), (.string ({ data := #[] })), (.string ({ data := #[] }))]⟩) [some (.cells [(.int IntKind.u32 (nx x)), (.int IntKind.i64 s), (.int IntKind.i64 z), (.int IntKind.i64 r), (.int IntKind.i64 w), (.int IntKind.i64 k), (.int IntKind.i64 v), (.int IntKind.i64 p)] 0 false)]))
       else
        ((0 : Int) < 2) ∧
        (Q (.agg ⟨[(.int IntKind.i64 6), (.int IntKind.i64 (IntKind.wrap IntKind.i64 (1 + dr (nx x) 2))), (.int IntKind.i64 0), (.string ({ data := #[] })), (.string ({ data := #[] }))]⟩) [some (.cells [(.int IntKind.u32 (nx (nx x))), (.int IntKind.i64 s), (.int IntKind.i64 z), (.int IntKind.i64 r), (.int IntKind.i64 w), (.int IntKind.i64 k), (.int IntKind.i64 v), (.int IntKind.i64 p)] 0 false)]))
      else
       (Q (.agg ⟨[(.int IntKind.i64 5), (.int IntKind.i64 0), (.int IntKind.i64 0), (.string ({ data := #[] })), (.string ({ data := #[] }))]⟩) [some (.cells [(.int IntKind.u32 (nx x)), (.int IntKind.i64 s), (.int IntKind.i64 z), (.int IntKind.i64 r), (.int IntKind.i64 w), (.int IntKind.i64 k), (.int IntKind.i64 v), (.int IntKind.i64 p)] 0 false)]))
     else
      (Q (.agg ⟨[(.int IntKind.i64 5), (.int IntKind.i64 0), (.int IntKind.i64 0), (.string ({ data := #[] })), (.string ({ data := #[] }))]⟩) [some (.cells [(.int IntKind.u32 (nx x)), (.int IntKind.i64 s), (.int IntKind.i64 z), (.int IntKind.i64 r), (.int IntKind.i64 w), (.int IntKind.i64 k), (.int IntKind.i64 v), (.int IntKind.i64 p)] 0 false)]))
    else
     (Q (.agg ⟨[(.int IntKind.i64 4), (.int IntKind.i64 0), (.int IntKind.i64 0), (.string ({ data := #[] })), (.string ({ data := #[] }))]⟩) [some (.cells [(.int IntKind.u32 (nx x)), (.int IntKind.i64 s), (.int IntKind.i64 z), (.int IntKind.i64 r), (.int IntKind.i64 w), (.int IntKind.i64 k), (.int IntKind.i64 v), (.int IntKind.i64 p)] 0 false)]))
   else
    ((0 : Int) < 8) ∧
    (Q (.agg ⟨[(.int IntKind.i64 2), (.int IntKind.i64 0), (.int IntKind.i64 0), (.string ({ data := { toList := List.map (fun n => UInt8.ofNat (Int.toNat n)) [IntKind.wrap IntKind.u8 (97 + IntKind.wrap IntKind.u8 (dr (nx x) 8))] } })), (.string ({ data := #[] }))]⟩) [some (.cells [(.int IntKind.u32 (nx (nx x))), (.int IntKind.i64 s), (.int IntKind.i64 z), (.int IntKind.i64 r), (.int IntKind.i64 w), (.int IntKind.i64 k), (.int IntKind.i64 v), (.int IntKind.i64 p)] 0 false)]))
  else
   ((0 : Int) < 8) ∧
   (Q (.agg ⟨[(.int IntKind.i64 3), (.int IntKind.i64 0), (.int IntKind.i64 0), (.string ({ data := { toList := List.map (fun n => UInt8.ofNat (Int.toNat n)) [IntKind.wrap IntKind.u8 (97 + IntKind.wrap IntKind.u8 (dr (nx x) 8))] } })), (.string ({ data := #[] }))]⟩) [some (.cells [(.int IntKind.u32 (nx (nx x))), (.int IntKind.i64 s), (.int IntKind.i64 z), (.int IntKind.i64 r), (.int IntKind.i64 w), (.int IntKind.i64 k), (.int IntKind.i64 v), (.int IntKind.i64 p)] 0 false)]))
 else
  ((0 : Int) < 8) ∧
  (0 < IntKind.wrap IntKind.i64 (v + 1)) ∧
  ((0 : Int) < 26) ∧
  (0 ≤ dr (nx (nx x)) (IntKind.wrap IntKind.i64 (v + 1)) ∧ dr (nx (nx x)) (IntKind.wrap IntKind.i64 (v + 1)) ≤ 9223372036854775807 ∧ ByteArray.size { data := { toList := List.map (fun n => UInt8.ofNat (Int.toNat n)) [IntKind.wrap IntKind.u8 (65 + IntKind.wrap IntKind.u8 (dr (nx (nx (nx x))) 26))] } } * Int.toNat (dr (nx (nx x)) (IntKind.wrap IntKind.i64 (v + 1))) ≤ 140737488355328) ∧
  (Q (.agg ⟨[(.int IntKind.i64 1), (.int IntKind.i64 0), (.int IntKind.i64 0), (.string ({ data := { toList := List.map (fun n => UInt8.ofNat (Int.toNat n)) [IntKind.wrap IntKind.u8 (97 + IntKind.wrap IntKind.u8 (dr (nx x) 8))] } })), (.string ({ data := { toList := Lib.repeatL (Array.toList (ByteArray.data { data := { toList := List.map (fun n => UInt8.ofNat (Int.toNat n)) [IntKind.wrap IntKind.u8 (65 + IntKind.wrap IntKind.u8 (dr (nx (nx (nx x))) 26))] } })) (Int.toNat (dr (nx (nx x)) (IntKind.wrap IntKind.i64 (v + 1)))) } }))]⟩) [some (.cells [(.int IntKind.u32 (nx (nx (nx (nx x))))), (.int IntKind.i64 s), (.int IntKind.i64 z), (.int IntKind.i64 r), (.int IntKind.i64 w), (.int IntKind.i64 k), (.int IntKind.i64 v), (.int IntKind.i64 p)] 0 false)]))) := by kernel_rfl
end Go.Ideal
