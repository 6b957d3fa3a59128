/-
  Part of the proof: the machine that runs a program by fixed orders, and that each of its runs is a run of the model; or a run of it in parts. No conditions.
-/
import Derived.Test.YtnonaponcjffjaaGreatDoorAbr
import Derived.Test.YtnonaponcjffjaaGreatDoorWrkD
set_option maxRecDepth 1000000
namespace Go.Ideal
open Go.Proofs
noncomputable def st (f : FuncId) (n : Nat) (args : List Value) (H : IHeap) : Cfg := startC f (fillTmps 0 args .leaf) n (pcOf Tryz.prog f []) H
noncomputable def X0 : Ctx := ctxI Tryz.prog tabLaid []
noncomputable def cfgV (s z r w k v p : Int) : Value := .agg ⟨[.int .i64 s, .int .i64 z, .int .i64 r, .int .i64 w, .int .i64 k, .int .i64 v, .int .i64 p]⟩
theorem vc_conf (s z r w k v p : Int) (Q : Value → List (Option IObj) → Prop) : VC X0 43 [] Q 1000 (st 43 55 [cfgV s z r w k v p] (heap0 tabLaid 20)) = (
 (((.int IntKind.i64 0) : Value) = (.int IntKind.i64 0)) ∧
 (((.agg ⟨[(.int IntKind.i64 p), (.int IntKind.i64 1), (.int IntKind.i64 2)]⟩) : Value) = (.agg ⟨[(.int IntKind.i64 p), (.int IntKind.i64 1), (.int IntKind.i64 2)]⟩)) ∧
 (((.int IntKind.i64 p) : Value) = (.int IntKind.i64 p)) ∧
 (((.pointer (some ⟨20, 6, none⟩)) : Value) = (.pointer (some ⟨20, 6, none⟩))) ∧
 (((.agg ⟨[(.int IntKind.i64 s), (.int IntKind.i64 z), (.int IntKind.i64 r), (.int IntKind.i64 w), (.int IntKind.i64 k), (.int IntKind.i64 v), (.int IntKind.i64 p)]⟩) : Value) = (.agg ⟨[(.int IntKind.i64 s), (.int IntKind.i64 z), (.int IntKind.i64 r), (.int IntKind.i64 w), (.int IntKind.i64 k), (.int IntKind.i64 v), (.int IntKind.i64 p)]⟩)) ∧
 (((.int IntKind.i64 w) : Value) = (.int IntKind.i64 w)) ∧
 (((.pointer (some ⟨20, 3, none⟩)) : Value) = (.pointer (some ⟨20, 3, none⟩))) ∧
 (((.int IntKind.i64 z) : Value) = (.int IntKind.i64 z)) ∧
 (((.pointer (some ⟨20, 1, none⟩)) : Value) = (.pointer (some ⟨20, 1, none⟩))) ∧
 (((.agg ⟨[(.int IntKind.i64 v), (.int IntKind.i64 0), (.int IntKind.i64 512)]⟩) : Value) = (.agg ⟨[(.int IntKind.i64 v), (.int IntKind.i64 0), (.int IntKind.i64 512)]⟩)) ∧
 (((.int IntKind.i64 v) : Value) = (.int IntKind.i64 v)) ∧
 (((.pointer (some ⟨20, 5, none⟩)) : Value) = (.pointer (some ⟨20, 5, none⟩))) ∧
 (((.agg ⟨[(.int IntKind.i64 k), (.int IntKind.i64 1), (.int IntKind.i64 32)]⟩) : Value) = (.agg ⟨[(.int IntKind.i64 k), (.int IntKind.i64 1), (.int IntKind.i64 32)]⟩)) ∧
 (((.int IntKind.i64 k) : Value) = (.int IntKind.i64 k)) ∧
 (((.pointer (some ⟨20, 4, none⟩)) : Value) = (.pointer (some ⟨20, 4, none⟩))) ∧
 (((.agg ⟨[(.int IntKind.i64 s), (.int IntKind.i64 (IntKind.wrap IntKind.i64 (r + 2))), (.int IntKind.i64 32)]⟩) : Value) = (.agg ⟨[(.int IntKind.i64 s), (.int IntKind.i64 (IntKind.wrap IntKind.i64 (r + 2))), (.int IntKind.i64 32)]⟩)) ∧
 (((.int IntKind.i64 (IntKind.wrap IntKind.i64 (r + 2))) : Value) = (.int IntKind.i64 (IntKind.wrap IntKind.i64 (r + 2)))) ∧
 (((.int IntKind.i64 r) : Value) = (.int IntKind.i64 r)) ∧
 (((.pointer (some ⟨20, 2, none⟩)) : Value) = (.pointer (some ⟨20, 2, none⟩))) ∧
 (((.int IntKind.i64 s) : Value) = (.int IntKind.i64 s)) ∧
 (((.pointer (some ⟨20, 0, none⟩)) : Value) = (.pointer (some ⟨20, 0, none⟩))) ∧
 (((.agg ⟨[(.int IntKind.i64 r), (.int IntKind.i64 2), (.int IntKind.i64 8)]⟩) : Value) = (.agg ⟨[(.int IntKind.i64 r), (.int IntKind.i64 2), (.int IntKind.i64 8)]⟩)) ∧
 (((.int IntKind.i64 r) : Value) = (.int IntKind.i64 r)) ∧
 (((.pointer (some ⟨20, 2, none⟩)) : Value) = (.pointer (some ⟨20, 2, none⟩))) ∧
 (((.agg ⟨[(.int IntKind.i64 z), (.int IntKind.i64 (IntKind.wrap IntKind.i64 (16 + IntKind.wrap IntKind.i64 (IntKind.wrap IntKind.i64 (16 + k) + v)))), (.int IntKind.i64 8192)]⟩) : Value) = (.agg ⟨[(.int IntKind.i64 z), (.int IntKind.i64 (IntKind.wrap IntKind.i64 (16 + IntKind.wrap IntKind.i64 (IntKind.wrap IntKind.i64 (16 + k) + v)))), (.int IntKind.i64 8192)]⟩)) ∧
 (((.int IntKind.i64 (IntKind.wrap IntKind.i64 (16 + IntKind.wrap IntKind.i64 (IntKind.wrap IntKind.i64 (16 + k) + v)))) : Value) = (.int IntKind.i64 (IntKind.wrap IntKind.i64 (16 + IntKind.wrap IntKind.i64 (IntKind.wrap IntKind.i64 (16 + k) + v))))) ∧
 (((.int IntKind.i64 0) : Value) = (.int IntKind.i64 0)) ∧
 (((.agg ⟨[(.int IntKind.i64 p), (.int IntKind.i64 1), (.int IntKind.i64 2)]⟩) : Value) = (.agg ⟨[(.int IntKind.i64 p), (.int IntKind.i64 1), (.int IntKind.i64 2)]⟩)) ∧
 (((.int IntKind.i64 p) : Value) = (.int IntKind.i64 p)) ∧
 (((.pointer (some ⟨20, 6, none⟩)) : Value) = (.pointer (some ⟨20, 6, none⟩))) ∧
 (((.int IntKind.i64 w) : Value) = (.int IntKind.i64 w)) ∧
 (((.pointer (some ⟨20, 3, none⟩)) : Value) = (.pointer (some ⟨20, 3, none⟩))) ∧
 (((.int IntKind.i64 z) : Value) = (.int IntKind.i64 z)) ∧
 (((.pointer (some ⟨20, 1, none⟩)) : Value) = (.pointer (some ⟨20, 1, none⟩))) ∧
 (((.agg ⟨[(.int IntKind.i64 v), (.int IntKind.i64 0), (.int IntKind.i64 512)]⟩) : Value) = (.agg ⟨[(.int IntKind.i64 v), (.int IntKind.i64 0), (.int IntKind.i64 512)]⟩)) ∧
 (((.int IntKind.i64 v) : Value) = (.int IntKind.i64 v)) ∧
 (((.pointer (some ⟨20, 5, none⟩)) : Value) = (.pointer (some ⟨20, 5, none⟩))) ∧
 (((.agg ⟨[(.int IntKind.i64 k), (.int IntKind.i64 1), (.int IntKind.i64 32)]⟩) : Value) = (.agg ⟨[(.int IntKind.i64 k), (.int IntKind.i64 1), (.int IntKind.i64 32)]⟩)) ∧
 (((.int IntKind.i64 k) : Value) = (.int IntKind.i64 k)) ∧
 (((.pointer (some ⟨20, 4, none⟩)) : Value) = (.pointer (some ⟨20, 4, none⟩))) ∧
 (((.agg ⟨[(.int IntKind.i64 s), (.int IntKind.i64 (IntKind.wrap IntKind.i64 (r + 2))), (.int IntKind.i64 32)]⟩) : Value) = (.agg ⟨[(.int IntKind.i64 s), (.int IntKind.i64 (IntKind.wrap IntKind.i64 (r + 2))), (.int IntKind.i64 32)]⟩)) ∧
 (((.int IntKind.i64 (IntKind.wrap IntKind.i64 (r + 2))) : Value) = (.int IntKind.i64 (IntKind.wrap IntKind.i64 (r + 2)))) ∧
 (((.int IntKind.i64 r) : Value) = (.int IntKind.i64 r)) ∧
 (((.pointer (some ⟨20, 2, none⟩)) : Value) = (.pointer (some ⟨20, 2, none⟩))) ∧
 (((.int IntKind.i64 s) : Value) = (.int IntKind.i64 s)) ∧
 (((.pointer (some ⟨20, 0, none⟩)) : Value) = (.pointer (some ⟨20, 0, none⟩))) ∧
 (((.agg ⟨[(.int IntKind.i64 r), (.int IntKind.i64 2), (.int IntKind.i64 8)]⟩) : Value) = (.agg ⟨[(.int IntKind.i64 r), (.int IntKind.i64 2), (.int IntKind.i64 8)]⟩)) ∧
 (((.int IntKind.i64 r) : Value) = (.int IntKind.i64 r)) ∧
 (((.pointer (some ⟨20, 2, none⟩)) : Value) = (.pointer (some ⟨20, 2, none⟩))) ∧
 (bif decide (r < 2) then
  (Q (.int IntKind.i64 2) [])
 else
  (bif decide (r > 8) then
   (Q (.int IntKind.i64 2) [])
  else
   (bif decide (s < IntKind.wrap IntKind.i64 (r + 2)) then
    (Q (.int IntKind.i64 2) [])
   else
    (bif decide (s > 32) then
     (Q (.int IntKind.i64 2) [])
    else
     (bif decide (k < 1) then
      (Q (.int IntKind.i64 2) [])
     else
      (bif decide (k > 32) then
       (Q (.int IntKind.i64 2) [])
      else
       (bif decide (v < 0) then
        (Q (.int IntKind.i64 2) [])
       else
        (bif decide (v > 512) then
         (Q (.int IntKind.i64 2) [])
        else
         (bif decide (z < IntKind.wrap IntKind.i64 (16 + IntKind.wrap IntKind.i64 (IntKind.wrap IntKind.i64 (16 + k) + v))) then
          (Q (.int IntKind.i64 2) [])
         else
          (bif decide (z > 8192) then
           (Q (.int IntKind.i64 2) [])
          else
           (bif decide (w < IntKind.wrap IntKind.i64 (2 * IntKind.wrap IntKind.i64 (IntKind.wrap IntKind.i64 (IntKind.wrap IntKind.i64 (16 + k) + v) + 16))) then
            (Q (.int IntKind.i64 2) [])
           else
            (bif decide (w > 65536) then
             (Q (.int IntKind.i64 2) [])
            else
             (bif decide (p < 1) then
              (Q (.int IntKind.i64 2) [])
             else
              (bif decide (p > 2) then
               (Q (.int IntKind.i64 2) [])
              else
               (Q (.int IntKind.i64 0) [])))))))))))))))) := by kernel_rfl
theorem vc_ref (s z r w k v p : Int) (Q : Value → List (Option IObj) → Prop) : VC X0 21 [] Q 1000 (st 21 56 [cfgV s z r w k v p] (heap0 tabLaid 20)) = (
 (bif decide (r ≥ 2) then
  (bif decide (r ≤ 8) then
   (bif decide (s ≥ IntKind.wrap IntKind.i64 (r + 2)) then
    (bif decide (s ≤ 32) then
     (bif decide (k ≥ 1) then
      (bif decide (k ≤ 32) then
       (bif decide (v ≥ 0) then
        (bif decide (v ≤ 512) then
         (bif decide (z ≥ IntKind.wrap IntKind.i64 (16 + IntKind.wrap IntKind.i64 (IntKind.wrap IntKind.i64 (16 + k) + v))) then
          (bif decide (z ≤ 8192) then
           (bif decide (w ≥ IntKind.wrap IntKind.i64 (2 * IntKind.wrap IntKind.i64 (IntKind.wrap IntKind.i64 (IntKind.wrap IntKind.i64 (16 + k) + v) + 16))) then
            (bif decide (w ≤ 65536) then
             (bif decide (p ≥ 1) then
              (bif decide (p ≤ 2) then
               (Q (.int IntKind.i64 0) [])
              else
               (Q (.int IntKind.i64 2) []))
             else
              (Q (.int IntKind.i64 2) []))
            else
             (Q (.int IntKind.i64 2) []))
           else
            (Q (.int IntKind.i64 2) []))
          else
           (Q (.int IntKind.i64 2) []))
         else
          (Q (.int IntKind.i64 2) []))
        else
         (Q (.int IntKind.i64 2) []))
       else
        (Q (.int IntKind.i64 2) []))
      else
       (Q (.int IntKind.i64 2) []))
     else
      (Q (.int IntKind.i64 2) []))
    else
     (Q (.int IntKind.i64 2) []))
   else
    (Q (.int IntKind.i64 2) []))
  else
   (Q (.int IntKind.i64 2) []))
 else
  (Q (.int IntKind.i64 2) []))) := by kernel_rfl
noncomputable def fConf (g : Int → Int → Int → Int → Int → Int → Int → Int) : IFun := fun args H => match (match args with
    | [.agg ⟨[.int .i64 s, .int .i64 z, .int .i64 r, .int .i64 w, .int .i64 k, .int .i64 v, .int .i64 p]⟩] => some (.int .i64 (g s z r w k v p))
    | _ => none) with
  | some v => some (v, H)
  | none => none
noncomputable def pConf (g : Int → Int → Int → Int → Int → Int → Int → Int) (e0 : Int) : PFun := fun args H K => match args with
  | [.agg ⟨[.int .i64 s, .int .i64 z, .int .i64 r, .int .i64 w, .int .i64 k, .int .i64 v, .int .i64 p]⟩] => g s z r w k v p = e0 ∧ K (.int .i64 e0) H
  | _ => False
noncomputable def pfC (g : Int → Int → Int → Int → Int → Int → Int → Int) (e0 : Int) : Pf := fun f => bif Nat.beq f 43 || Nat.beq f 21 then some (pConf g e0) else none
noncomputable def XNold (g : Int → Int → Int → Int → Int → Int → Int → Int) : Ctx := ctxI Tryz.prog tabLaid [(12, knownF wrkK), (43, fConf g), (21, fConf g)]
abbrev G7 := Int → Int → Int → Int → Int → Int → Int → Int
noncomputable def XC (g : G7) : Ctx := ctxI Tryz.prog tabLaid [(43, fConf g), (21, fConf g)]
theorem vc_ent0 (g : G7) (s z r w k v p : Int) (Q : Value → List (Option IObj) → Prop) : VCp (XC g) (pfC g 0) 6 [] Q 3000 (st 6 9 [cfgV s z r w k v p] (heap0 tabLaid 20)) = (
 ((g s z r w k v p) = (0)) ∧
 ((g s z r w k v p) = (0)) ∧
 (((.int IntKind.i64 (IntKind.wrap IntKind.i64 (IntKind.wrap IntKind.i64 (s - r) - 2))) : Value) = (.int IntKind.i64 (IntKind.wrap IntKind.i64 (IntKind.wrap IntKind.i64 (s - r) - 2)))) ∧
 (((.int IntKind.i64 (IntKind.wrap IntKind.i64 (s - r))) : Value) = (.int IntKind.i64 (IntKind.wrap IntKind.i64 (s - r)))) ∧
 (((.int IntKind.i64 r) : Value) = (.int IntKind.i64 r)) ∧
 (((.pointer (some ⟨25, 2, none⟩)) : Value) = (.pointer (some ⟨25, 2, none⟩))) ∧
 (((.int IntKind.i64 s) : Value) = (.int IntKind.i64 s)) ∧
 (((.pointer (some ⟨25, 0, none⟩)) : Value) = (.pointer (some ⟨25, 0, none⟩))) ∧
 ((g s z r w k v p) = (0)) ∧
 (bif decide (w ≠ 0) then
  (Q (.tuple ⟨[(.int IntKind.i64 (IntKind.wrap IntKind.i64 (IntKind.wrap IntKind.i64 (3 * s) * IntKind.wrap IntKind.i64 (IntKind.wrap IntKind.i64 (Int.tdiv (IntKind.wrap IntKind.i64 (IntKind.wrap IntKind.i64 (IntKind.wrap IntKind.i64 (2 * z) + w) - 1)) w) + 4)))), (.int IntKind.i64 0)]⟩) [])
 else
  False)) := by kernel_rfl
theorem vc_ent2 (g : G7) (s z r w k v p : Int) (Q : Value → List (Option IObj) → Prop) : VCp (XC g) (pfC g 2) 6 [] Q 3000 (st 6 9 [cfgV s z r w k v p] (heap0 tabLaid 20)) = (
 ((g s z r w k v p) = (2)) ∧
 (Q (.tuple ⟨[(.int IntKind.i64 0), (.int IntKind.i64 2)]⟩) [])) := by kernel_rfl
theorem vc_rent0 (g : G7) (s z r w k v p : Int) (Q : Value → List (Option IObj) → Prop) : VCp (XC g) (pfC g 0) 7 [] Q 3000 (st 7 24 [cfgV s z r w k v p] (heap0 tabLaid 20)) = (
 ((g s z r w k v p) = (0)) ∧
 ((g s z r w k v p) = (0)) ∧
 (bif decide (w ≠ 0) then
  (bif decide (IntKind.wrap IntKind.i64 (IntKind.wrap IntKind.i64 (Int.tdiv (IntKind.wrap IntKind.i64 (2 * z)) w) * w) < IntKind.wrap IntKind.i64 (2 * z)) then
   (Q (.tuple ⟨[(.int IntKind.i64 (IntKind.wrap IntKind.i64 (IntKind.wrap IntKind.i64 (3 * s) * IntKind.wrap IntKind.i64 (IntKind.wrap IntKind.i64 (IntKind.wrap IntKind.i64 (Int.tdiv (IntKind.wrap IntKind.i64 (2 * z)) w) + 1) + 4)))), (.int IntKind.i64 0)]⟩) [])
  else
   (Q (.tuple ⟨[(.int IntKind.i64 (IntKind.wrap IntKind.i64 (IntKind.wrap IntKind.i64 (3 * s) * IntKind.wrap IntKind.i64 (IntKind.wrap IntKind.i64 (Int.tdiv (IntKind.wrap IntKind.i64 (2 * z)) w) + 4)))), (.int IntKind.i64 0)]⟩) []))
 else
  False)) := by kernel_rfl
theorem vc_rent2 (g : G7) (s z r w k v p : Int) (Q : Value → List (Option IObj) → Prop) : VCp (XC g) (pfC g 2) 7 [] Q 3000 (st 7 24 [cfgV s z r w k v p] (heap0 tabLaid 20)) = (
 ((g s z r w k v p) = (2)) ∧
 ((g s z r w k v p) = (2)) ∧
 (Q (.tuple ⟨[(.int IntKind.i64 0), (.int IntKind.i64 2)]⟩) [])) := by kernel_rfl
theorem vc_vic0 (g : G7) (s z r w k v p : Int) (Q : Value → List (Option IObj) → Prop) : VCp (XC g) (pfC g 0) 8 [] Q 3000 (st 8 9 [cfgV s z r w k v p] (heap0 tabLaid 20)) = (
 ((g s z r w k v p) = (0)) ∧
 ((g s z r w k v p) = (0)) ∧
 (((.int IntKind.i64 (IntKind.wrap IntKind.i64 (IntKind.wrap IntKind.i64 (s - r) - 2))) : Value) = (.int IntKind.i64 (IntKind.wrap IntKind.i64 (IntKind.wrap IntKind.i64 (s - r) - 2)))) ∧
 (((.int IntKind.i64 (IntKind.wrap IntKind.i64 (s - r))) : Value) = (.int IntKind.i64 (IntKind.wrap IntKind.i64 (s - r)))) ∧
 (((.int IntKind.i64 r) : Value) = (.int IntKind.i64 r)) ∧
 (((.pointer (some ⟨25, 2, none⟩)) : Value) = (.pointer (some ⟨25, 2, none⟩))) ∧
 (((.int IntKind.i64 s) : Value) = (.int IntKind.i64 s)) ∧
 (((.pointer (some ⟨25, 0, none⟩)) : Value) = (.pointer (some ⟨25, 0, none⟩))) ∧
 ((g s z r w k v p) = (0)) ∧
 (bif decide (w ≠ 0) then
  (Q (.tuple ⟨[(.int IntKind.i64 (IntKind.wrap IntKind.i64 (3 * s))), (.int IntKind.i64 0)]⟩) [])
 else
  False)) := by kernel_rfl
theorem vc_vic2 (g : G7) (s z r w k v p : Int) (Q : Value → List (Option IObj) → Prop) : VCp (XC g) (pfC g 2) 8 [] Q 3000 (st 8 9 [cfgV s z r w k v p] (heap0 tabLaid 20)) = (
 ((g s z r w k v p) = (2)) ∧
 (Q (.tuple ⟨[(.int IntKind.i64 0), (.int IntKind.i64 2)]⟩) [])) := by kernel_rfl
theorem vc_rvic0 (g : G7) (s z r w k v p : Int) (Q : Value → List (Option IObj) → Prop) : VCp (XC g) (pfC g 0) 9 [] Q 3000 (st 9 10 [cfgV s z r w k v p] (heap0 tabLaid 20)) = (
 ((g s z r w k v p) = (0)) ∧
 (Q (.tuple ⟨[(.int IntKind.i64 (IntKind.wrap IntKind.i64 (3 * s))), (.int IntKind.i64 0)]⟩) [])) := by kernel_rfl
theorem vc_rvic2 (g : G7) (s z r w k v p : Int) (Q : Value → List (Option IObj) → Prop) : VCp (XC g) (pfC g 2) 9 [] Q 3000 (st 9 10 [cfgV s z r w k v p] (heap0 tabLaid 20)) = (
 ((g s z r w k v p) = (2)) ∧
 (Q (.tuple ⟨[(.int IntKind.i64 0), (.int IntKind.i64 2)]⟩) [])) := by kernel_rfl
theorem vc_seg0 (g : G7) (s z r w k v p c : Int) (Q : Value → List (Option IObj) → Prop) : VCp (XC g) (pfC g 0) 10 [] Q 3000 (st 10 18 [cfgV s z r w k v p, .int .i64 c] (heap0 tabLaid 20)) = (
 ((g s z r w k v p) = (0)) ∧
 ((g s z r w k v p) = (0)) ∧
 (((.int IntKind.i64 (IntKind.wrap IntKind.i64 (IntKind.wrap IntKind.i64 (s - r) - 2))) : Value) = (.int IntKind.i64 (IntKind.wrap IntKind.i64 (IntKind.wrap IntKind.i64 (s - r) - 2)))) ∧
 (((.int IntKind.i64 (IntKind.wrap IntKind.i64 (s - r))) : Value) = (.int IntKind.i64 (IntKind.wrap IntKind.i64 (s - r)))) ∧
 (((.int IntKind.i64 r) : Value) = (.int IntKind.i64 r)) ∧
 (((.pointer (some ⟨26, 2, none⟩)) : Value) = (.pointer (some ⟨26, 2, none⟩))) ∧
 (((.int IntKind.i64 s) : Value) = (.int IntKind.i64 s)) ∧
 (((.pointer (some ⟨26, 0, none⟩)) : Value) = (.pointer (some ⟨26, 0, none⟩))) ∧
 ((g s z r w k v p) = (0)) ∧
 (bif decide (w ≠ 0) then
  (bif decide (c < 0) then
   (Q (.tuple ⟨[(.int IntKind.i64 0), (.int IntKind.i64 2)]⟩) [])
  else
   (bif decide (c > IntKind.wrap IntKind.i64 (Int.tdiv (IntKind.wrap IntKind.i64 (IntKind.wrap IntKind.i64 (IntKind.wrap IntKind.i64 (s - r) - 2) * IntKind.wrap IntKind.i64 (z - 16))) 2)) then
    (Q (.tuple ⟨[(.int IntKind.i64 0), (.int IntKind.i64 2)]⟩) [])
   else
    (bif c == 0 then
     (Q (.tuple ⟨[(.int IntKind.i64 0), (.int IntKind.i64 0)]⟩) [])
    else
     (bif decide (IntKind.wrap IntKind.i64 (IntKind.wrap IntKind.i64 (z - 16) + 1) ≠ 0) then
      (bif decide (IntKind.wrap IntKind.i64 (IntKind.wrap IntKind.i64 (2 * IntKind.wrap IntKind.i64 (Int.tdiv c (IntKind.wrap IntKind.i64 (IntKind.wrap IntKind.i64 (z - 16) + 1)))) + 1) < 0) then
       (Q (.tuple ⟨[(.int IntKind.i64 0), (.int IntKind.i64 2)]⟩) [])
      else
       (Q (.tuple ⟨[(.int IntKind.i64 (IntKind.wrap IntKind.i64 (IntKind.wrap IntKind.i64 (2 * IntKind.wrap IntKind.i64 (Int.tdiv c (IntKind.wrap IntKind.i64 (IntKind.wrap IntKind.i64 (z - 16) + 1)))) + 1))), (.int IntKind.i64 0)]⟩) []))
     else
      False))))
 else
  False)) := by kernel_rfl
theorem vc_seg2 (g : G7) (s z r w k v p c : Int) (Q : Value → List (Option IObj) → Prop) : VCp (XC g) (pfC g 2) 10 [] Q 3000 (st 10 18 [cfgV s z r w k v p, .int .i64 c] (heap0 tabLaid 20)) = (
 ((g s z r w k v p) = (2)) ∧
 (Q (.tuple ⟨[(.int IntKind.i64 0), (.int IntKind.i64 2)]⟩) [])) := by kernel_rfl
theorem vc_rseg0 (g : G7) (s z r w k v p c : Int) (Q : Value → List (Option IObj) → Prop) : VCp (XC g) (pfC g 0) 11 [] Q 3000 (st 11 39 [cfgV s z r w k v p, .int .i64 c] (heap0 tabLaid 20)) = (
 ((g s z r w k v p) = (0)) ∧
 (bif decide (c < 0) then
  (Q (.tuple ⟨[(.int IntKind.i64 0), (.int IntKind.i64 2)]⟩) [])
 else
  (bif decide (c > IntKind.wrap IntKind.i64 (Int.tdiv (IntKind.wrap IntKind.i64 (IntKind.wrap IntKind.i64 (IntKind.wrap IntKind.i64 (s - r) - 2) * IntKind.wrap IntKind.i64 (z - 16))) 2)) then
   (Q (.tuple ⟨[(.int IntKind.i64 0), (.int IntKind.i64 2)]⟩) [])
  else
   (bif c == 0 then
    (Q (.tuple ⟨[(.int IntKind.i64 0), (.int IntKind.i64 0)]⟩) [])
   else
    ((g s z r w k v p) = (0)) ∧
    (bif decide (IntKind.wrap IntKind.i64 (IntKind.wrap IntKind.i64 (z - 16) + 1) ≠ 0) then
     (Q (.tuple ⟨[(.int IntKind.i64 (IntKind.wrap IntKind.i64 (IntKind.wrap IntKind.i64 (2 * IntKind.wrap IntKind.i64 (Int.tdiv c (IntKind.wrap IntKind.i64 (IntKind.wrap IntKind.i64 (z - 16) + 1)))) + 1))), (.int IntKind.i64 0)]⟩) [])
    else
     False))))) := by kernel_rfl
theorem vc_rseg2 (g : G7) (s z r w k v p c : Int) (Q : Value → List (Option IObj) → Prop) : VCp (XC g) (pfC g 2) 11 [] Q 3000 (st 11 39 [cfgV s z r w k v p, .int .i64 c] (heap0 tabLaid 20)) = (
 ((g s z r w k v p) = (2)) ∧
 (Q (.tuple ⟨[(.int IntKind.i64 0), (.int IntKind.i64 2)]⟩) [])) := by kernel_rfl
abbrev V7 := Int → Int → Int → Int → Int → Int → Int → Value
abbrev V8 := Int → Int → Int → Int → Int → Int → Int → Int → Value
noncomputable def f7 (h : V7) : IFun := fun args H => match (match args with
    | [.agg ⟨[.int .i64 s, .int .i64 z, .int .i64 r, .int .i64 w, .int .i64 k, .int .i64 v, .int .i64 p]⟩] => some (h s z r w k v p)
    | _ => none) with
  | some v => some (v, H)
  | none => none
noncomputable def f8 (h : V8) : IFun := fun args H => match (match args with
    | [.agg ⟨[.int .i64 s, .int .i64 z, .int .i64 r, .int .i64 w, .int .i64 k, .int .i64 v, .int .i64 p]⟩, .int .i64 c] => some (h s z r w k v p c)
    | _ => none) with
  | some v => some (v, H)
  | none => none
noncomputable def t2 (a b : Int) : Value := .tuple ⟨[.int .i64 a, .int .i64 b]⟩
noncomputable def XM (a b : G7) (c d : G7) (e f : Int → G7) : Ctx := ctxI Tryz.prog tabLaid [(12, knownF wrkK), (6, f7 fun s z r w k v p => t2 (a s z r w k v p) (b s z r w k v p)), (7, f7 fun s z r w k v p => t2 (a s z r w k v p) (b s z r w k v p)),
  (8, f7 fun s z r w k v p => t2 (c s z r w k v p) (d s z r w k v p)), (9, f7 fun s z r w k v p => t2 (c s z r w k v p) (d s z r w k v p)),
  (10, f8 fun s z r w k v p x => t2 (e x s z r w k v p) (f x s z r w k v p)), (11, f8 fun s z r w k v p x => t2 (e x s z r w k v p) (f x s z r w k v p))]
theorem vc_num (a b c d : G7) (e f : Int → G7) (s z r w k v p x : Int) (Q : Value → List (Option IObj) → Prop) : VC (XM a b c d e f) 3 [] Q 3000 (st 3 80 [cfgV s z r w k v p, .int .i64 x] (heap0 tabLaid 20)) = (
 (bif a s z r w k v p == a s z r w k v p then
  (bif b s z r w k v p == b s z r w k v p then
   (bif c s z r w k v p == c s z r w k v p then
    (bif d s z r w k v p == d s z r w k v p then
     (bif e x s z r w k v p == e x s z r w k v p then
      (bif f x s z r w k v p == f x s z r w k v p then
       (Q (.bool true) [])
      else
       (Q (.bool false) []))
     else
      (Q (.bool false) []))
    else
     (Q (.bool false) []))
   else
    (Q (.bool false) []))
  else
   (Q (.bool false) []))
 else
  (Q (.bool false) []))) := by kernel_rfl
end Go.Ideal
