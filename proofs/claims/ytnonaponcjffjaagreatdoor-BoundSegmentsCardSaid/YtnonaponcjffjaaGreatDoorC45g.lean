/-
  Part of the proof: the machine that runs a program by fixed orders, and that each of its runs is a run of the model; or a run of it in parts. No conditions.
-/
import Derived.Test.YtnonaponcjffjaaGreatDoorC45b
set_option maxRecDepth 1000000
namespace Go.Ideal
open Go.Proofs
noncomputable def nV (n0 n1 n2 n3 n4 n5 n6 : Int) : Value := .agg ⟨[.int .u32 n0, .int .u32 n1, .int .u32 n2, .int .u32 n3, .int .u32 n4, .int .u32 n5, .int .u32 n6]⟩
theorem vc_made (n0 n1 n2 n3 n4 n5 n6 : Int) (Q : Value → List (Option IObj) → Prop) : VC X0 13 [] Q 3000 (st 13 70 [nV n0 n1 n2 n3 n4 n5 n6] (heap0 tabLaid 20)) = (
 (bif decide (IntKind.wrap IntKind.i64 (IntKind.wrap IntKind.i64 (32 - IntKind.wrap IntKind.i64 (2 + IntKind.wrap IntKind.i64 (Int.tmod n0 7))) - 1) ≠ 0) then
  (bif decide (IntKind.wrap IntKind.i64 (IntKind.wrap IntKind.i64 (8176 - IntKind.wrap IntKind.i64 (IntKind.wrap IntKind.i64 (16 + IntKind.wrap IntKind.i64 (1 + IntKind.wrap IntKind.i64 (Int.tmod n1 32))) + IntKind.wrap IntKind.i64 (Int.tmod n2 513))) + 1) ≠ 0) then
   (bif decide (IntKind.wrap IntKind.i64 (IntKind.wrap IntKind.i64 (65536 - IntKind.wrap IntKind.i64 (2 * IntKind.wrap IntKind.i64 (IntKind.wrap IntKind.i64 (IntKind.wrap IntKind.i64 (16 + IntKind.wrap IntKind.i64 (1 + IntKind.wrap IntKind.i64 (Int.tmod n1 32))) + IntKind.wrap IntKind.i64 (Int.tmod n2 513)) + 16))) + 1) ≠ 0) then
    (Q (.agg ⟨[(.int IntKind.i64 (IntKind.wrap IntKind.i64 (IntKind.wrap IntKind.i64 (IntKind.wrap IntKind.i64 (2 + IntKind.wrap IntKind.i64 (Int.tmod n0 7)) + 2) + Int.tmod (IntKind.wrap IntKind.i64 n4) (IntKind.wrap IntKind.i64 (IntKind.wrap IntKind.i64 (32 - IntKind.wrap IntKind.i64 (2 + IntKind.wrap IntKind.i64 (Int.tmod n0 7))) - 1))))), (.int IntKind.i64 (IntKind.wrap IntKind.i64 (IntKind.wrap IntKind.i64 (16 + IntKind.wrap IntKind.i64 (IntKind.wrap IntKind.i64 (16 + IntKind.wrap IntKind.i64 (1 + IntKind.wrap IntKind.i64 (Int.tmod n1 32))) + IntKind.wrap IntKind.i64 (Int.tmod n2 513))) + Int.tmod (IntKind.wrap IntKind.i64 n5) (IntKind.wrap IntKind.i64 (IntKind.wrap IntKind.i64 (8176 - IntKind.wrap IntKind.i64 (IntKind.wrap IntKind.i64 (16 + IntKind.wrap IntKind.i64 (1 + IntKind.wrap IntKind.i64 (Int.tmod n1 32))) + IntKind.wrap IntKind.i64 (Int.tmod n2 513))) + 1))))), (.int IntKind.i64 (IntKind.wrap IntKind.i64 (2 + IntKind.wrap IntKind.i64 (Int.tmod n0 7)))), (.int IntKind.i64 (IntKind.wrap IntKind.i64 (IntKind.wrap IntKind.i64 (2 * IntKind.wrap IntKind.i64 (IntKind.wrap IntKind.i64 (IntKind.wrap IntKind.i64 (16 + IntKind.wrap IntKind.i64 (1 + IntKind.wrap IntKind.i64 (Int.tmod n1 32))) + IntKind.wrap IntKind.i64 (Int.tmod n2 513)) + 16)) + Int.tmod (IntKind.wrap IntKind.i64 n6) (IntKind.wrap IntKind.i64 (IntKind.wrap IntKind.i64 (65536 - IntKind.wrap IntKind.i64 (2 * IntKind.wrap IntKind.i64 (IntKind.wrap IntKind.i64 (IntKind.wrap IntKind.i64 (16 + IntKind.wrap IntKind.i64 (1 + IntKind.wrap IntKind.i64 (Int.tmod n1 32))) + IntKind.wrap IntKind.i64 (Int.tmod n2 513)) + 16))) + 1))))), (.int IntKind.i64 (IntKind.wrap IntKind.i64 (1 + IntKind.wrap IntKind.i64 (Int.tmod n1 32)))), (.int IntKind.i64 (IntKind.wrap IntKind.i64 (Int.tmod n2 513))), (.int IntKind.i64 (IntKind.wrap IntKind.i64 (1 + IntKind.wrap IntKind.i64 (Int.tmod n3 2))))]⟩) [])
   else
    False)
  else
   False)
 else
  False)) := by kernel_rfl
theorem vc_slc0 (g : G7) (s z r w k v p : Int) (Q : Value → List (Option IObj) → Prop) : VCp (XC g) (pfC g 0) 16 [] Q 3000 (st 16 9 [cfgV s z r w k v p] (heap0 tabLaid 20)) = (
 ((g s z r w k v p) = (0)) ∧
 (bif decide (w ≠ 0) then
  (Q (.tuple ⟨[(.int IntKind.i64 (IntKind.wrap IntKind.i64 (IntKind.wrap IntKind.i64 (Int.tdiv (IntKind.wrap IntKind.i64 (IntKind.wrap IntKind.i64 (IntKind.wrap IntKind.i64 (2 * z) + w) - 1)) w) + 4))), (.int IntKind.i64 0)]⟩) [])
 else
  False)) := by kernel_rfl
theorem vc_slc2 (g : G7) (s z r w k v p : Int) (Q : Value → List (Option IObj) → Prop) : VCp (XC g) (pfC g 2) 16 [] Q 3000 (st 16 9 [cfgV s z r w k v p] (heap0 tabLaid 20)) = (
 ((g s z r w k v p) = (2)) ∧
 (Q (.tuple ⟨[(.int IntKind.i64 0), (.int IntKind.i64 2)]⟩) [])) := by kernel_rfl
def u32In (n : Int) : Prop := 0 ≤ n ∧ n < 4294967296
noncomputable def pMade (ms mz mr mw mk mv mp : G7) : PFun := fun args H K => match args with
  | [.agg ⟨[.int .u32 n0, .int .u32 n1, .int .u32 n2, .int .u32 n3, .int .u32 n4, .int .u32 n5, .int .u32 n6]⟩] =>
    (u32In n0 ∧ u32In n1 ∧ u32In n2 ∧ u32In n3 ∧ u32In n4 ∧ u32In n5 ∧ u32In n6) ∧
      K (cfgV (ms n0 n1 n2 n3 n4 n5 n6) (mz n0 n1 n2 n3 n4 n5 n6) (mr n0 n1 n2 n3 n4 n5 n6) (mw n0 n1 n2 n3 n4 n5 n6) (mk n0 n1 n2 n3 n4 n5 n6) (mv n0 n1 n2 n3 n4 n5 n6) (mp n0 n1 n2 n3 n4 n5 n6)) H
  | _ => False
open Classical in
noncomputable def fMade (ms mz mr mw mk mv mp : G7) : IFun := fun args H => match args with
  | [.agg ⟨[.int .u32 n0, .int .u32 n1, .int .u32 n2, .int .u32 n3, .int .u32 n4, .int .u32 n5, .int .u32 n6]⟩] =>
    if (u32In n0 ∧ u32In n1 ∧ u32In n2 ∧ u32In n3 ∧ u32In n4 ∧ u32In n5 ∧ u32In n6) then
      some (cfgV (ms n0 n1 n2 n3 n4 n5 n6) (mz n0 n1 n2 n3 n4 n5 n6) (mr n0 n1 n2 n3 n4 n5 n6) (mw n0 n1 n2 n3 n4 n5 n6) (mk n0 n1 n2 n3 n4 n5 n6) (mv n0 n1 n2 n3 n4 n5 n6) (mp n0 n1 n2 n3 n4 n5 n6), H)
    else none
  | _ => none
noncomputable def pfM (ms mz mr mw mk mv mp : G7) : Pf := fun f => bif Nat.beq f 13 then some (pMade ms mz mr mw mk mv mp) else none
noncomputable def XG (ms mz mr mw mk mv mp : G7) (a b c d e : G7) : Ctx := ctxI Tryz.prog tabLaid [(12, knownF wrkK), (13, fMade ms mz mr mw mk mv mp), (6, f7 fun s z r w k v p => t2 (a s z r w k v p) (b s z r w k v p)),
  (8, f7 fun s z r w k v p => t2 (c s z r w k v p) (d s z r w k v p)), (16, f7 fun s z r w k v p => t2 (e s z r w k v p) (b s z r w k v p))]
theorem vc_grows (ms mz mr mw mk mv mp : G7) (a b c d e : G7) (n0 n1 n2 n3 n4 n5 n6 more size work : Int) (Q : Value → List (Option IObj) → Prop) : VCp (XG ms mz mr mw mk mv mp a b c d e) (pfM ms mz mr mw mk mv mp) 5 [] Q 3000 (st 5 124 [nV n0 n1 n2 n3 n4 n5 n6, .int .u16 more, .int .u16 size, .int .u16 work] (heap0 tabLaid 20)) = (
 (u32In n0 ∧ u32In n1 ∧ u32In n2 ∧ u32In n3 ∧ u32In n4 ∧ u32In n5 ∧ u32In n6) ∧
 (bif b (ms n0 n1 n2 n3 n4 n5 n6) (mz n0 n1 n2 n3 n4 n5 n6) (mr n0 n1 n2 n3 n4 n5 n6) (mw n0 n1 n2 n3 n4 n5 n6) (mk n0 n1 n2 n3 n4 n5 n6) (mv n0 n1 n2 n3 n4 n5 n6) (mp n0 n1 n2 n3 n4 n5 n6) == 0 then
  (bif b (if 32 < IntKind.wrap IntKind.i64 (ms n0 n1 n2 n3 n4 n5 n6 + IntKind.wrap IntKind.i64 (Int.tmod more 32)) then 32 else IntKind.wrap IntKind.i64 (ms n0 n1 n2 n3 n4 n5 n6 + IntKind.wrap IntKind.i64 (Int.tmod more 32))) (if 8192 < IntKind.wrap IntKind.i64 (mz n0 n1 n2 n3 n4 n5 n6 + IntKind.wrap IntKind.i64 size) then 8192 else IntKind.wrap IntKind.i64 (mz n0 n1 n2 n3 n4 n5 n6 + IntKind.wrap IntKind.i64 size)) (mr n0 n1 n2 n3 n4 n5 n6) (if IntKind.wrap IntKind.i64 (2 * IntKind.wrap IntKind.i64 (IntKind.wrap IntKind.i64 (IntKind.wrap IntKind.i64 (16 + mk n0 n1 n2 n3 n4 n5 n6) + mv n0 n1 n2 n3 n4 n5 n6) + 16)) > IntKind.wrap IntKind.i64 (mw n0 n1 n2 n3 n4 n5 n6 - IntKind.wrap IntKind.i64 work) then IntKind.wrap IntKind.i64 (2 * IntKind.wrap IntKind.i64 (IntKind.wrap IntKind.i64 (IntKind.wrap IntKind.i64 (16 + mk n0 n1 n2 n3 n4 n5 n6) + mv n0 n1 n2 n3 n4 n5 n6) + 16)) else IntKind.wrap IntKind.i64 (mw n0 n1 n2 n3 n4 n5 n6 - IntKind.wrap IntKind.i64 work)) (mk n0 n1 n2 n3 n4 n5 n6) (mv n0 n1 n2 n3 n4 n5 n6) (mp n0 n1 n2 n3 n4 n5 n6) == 0 then
   (bif d (ms n0 n1 n2 n3 n4 n5 n6) (mz n0 n1 n2 n3 n4 n5 n6) (mr n0 n1 n2 n3 n4 n5 n6) (mw n0 n1 n2 n3 n4 n5 n6) (mk n0 n1 n2 n3 n4 n5 n6) (mv n0 n1 n2 n3 n4 n5 n6) (mp n0 n1 n2 n3 n4 n5 n6) == 0 then
    (bif d (if 32 < IntKind.wrap IntKind.i64 (ms n0 n1 n2 n3 n4 n5 n6 + IntKind.wrap IntKind.i64 (Int.tmod more 32)) then 32 else IntKind.wrap IntKind.i64 (ms n0 n1 n2 n3 n4 n5 n6 + IntKind.wrap IntKind.i64 (Int.tmod more 32))) (if 8192 < IntKind.wrap IntKind.i64 (mz n0 n1 n2 n3 n4 n5 n6 + IntKind.wrap IntKind.i64 size) then 8192 else IntKind.wrap IntKind.i64 (mz n0 n1 n2 n3 n4 n5 n6 + IntKind.wrap IntKind.i64 size)) (mr n0 n1 n2 n3 n4 n5 n6) (if IntKind.wrap IntKind.i64 (2 * IntKind.wrap IntKind.i64 (IntKind.wrap IntKind.i64 (IntKind.wrap IntKind.i64 (16 + mk n0 n1 n2 n3 n4 n5 n6) + mv n0 n1 n2 n3 n4 n5 n6) + 16)) > IntKind.wrap IntKind.i64 (mw n0 n1 n2 n3 n4 n5 n6 - IntKind.wrap IntKind.i64 work) then IntKind.wrap IntKind.i64 (2 * IntKind.wrap IntKind.i64 (IntKind.wrap IntKind.i64 (IntKind.wrap IntKind.i64 (16 + mk n0 n1 n2 n3 n4 n5 n6) + mv n0 n1 n2 n3 n4 n5 n6) + 16)) else IntKind.wrap IntKind.i64 (mw n0 n1 n2 n3 n4 n5 n6 - IntKind.wrap IntKind.i64 work)) (mk n0 n1 n2 n3 n4 n5 n6) (mv n0 n1 n2 n3 n4 n5 n6) (mp n0 n1 n2 n3 n4 n5 n6) == 0 then
     (bif b (ms n0 n1 n2 n3 n4 n5 n6) (mz n0 n1 n2 n3 n4 n5 n6) (mr n0 n1 n2 n3 n4 n5 n6) (mw n0 n1 n2 n3 n4 n5 n6) (mk n0 n1 n2 n3 n4 n5 n6) (mv n0 n1 n2 n3 n4 n5 n6) (mp n0 n1 n2 n3 n4 n5 n6) == 0 then
      (bif decide (a (ms n0 n1 n2 n3 n4 n5 n6) (mz n0 n1 n2 n3 n4 n5 n6) (mr n0 n1 n2 n3 n4 n5 n6) (mw n0 n1 n2 n3 n4 n5 n6) (mk n0 n1 n2 n3 n4 n5 n6) (mv n0 n1 n2 n3 n4 n5 n6) (mp n0 n1 n2 n3 n4 n5 n6) ≤ a (if 32 < IntKind.wrap IntKind.i64 (ms n0 n1 n2 n3 n4 n5 n6 + IntKind.wrap IntKind.i64 (Int.tmod more 32)) then 32 else IntKind.wrap IntKind.i64 (ms n0 n1 n2 n3 n4 n5 n6 + IntKind.wrap IntKind.i64 (Int.tmod more 32))) (if 8192 < IntKind.wrap IntKind.i64 (mz n0 n1 n2 n3 n4 n5 n6 + IntKind.wrap IntKind.i64 size) then 8192 else IntKind.wrap IntKind.i64 (mz n0 n1 n2 n3 n4 n5 n6 + IntKind.wrap IntKind.i64 size)) (mr n0 n1 n2 n3 n4 n5 n6) (if IntKind.wrap IntKind.i64 (2 * IntKind.wrap IntKind.i64 (IntKind.wrap IntKind.i64 (IntKind.wrap IntKind.i64 (16 + mk n0 n1 n2 n3 n4 n5 n6) + mv n0 n1 n2 n3 n4 n5 n6) + 16)) > IntKind.wrap IntKind.i64 (mw n0 n1 n2 n3 n4 n5 n6 - IntKind.wrap IntKind.i64 work) then IntKind.wrap IntKind.i64 (2 * IntKind.wrap IntKind.i64 (IntKind.wrap IntKind.i64 (IntKind.wrap IntKind.i64 (16 + mk n0 n1 n2 n3 n4 n5 n6) + mv n0 n1 n2 n3 n4 n5 n6) + 16)) else IntKind.wrap IntKind.i64 (mw n0 n1 n2 n3 n4 n5 n6 - IntKind.wrap IntKind.i64 work)) (mk n0 n1 n2 n3 n4 n5 n6) (mv n0 n1 n2 n3 n4 n5 n6) (mp n0 n1 n2 n3 n4 n5 n6)) then
       (bif decide (c (ms n0 n1 n2 n3 n4 n5 n6) (mz n0 n1 n2 n3 n4 n5 n6) (mr n0 n1 n2 n3 n4 n5 n6) (mw n0 n1 n2 n3 n4 n5 n6) (mk n0 n1 n2 n3 n4 n5 n6) (mv n0 n1 n2 n3 n4 n5 n6) (mp n0 n1 n2 n3 n4 n5 n6) ≤ c (if 32 < IntKind.wrap IntKind.i64 (ms n0 n1 n2 n3 n4 n5 n6 + IntKind.wrap IntKind.i64 (Int.tmod more 32)) then 32 else IntKind.wrap IntKind.i64 (ms n0 n1 n2 n3 n4 n5 n6 + IntKind.wrap IntKind.i64 (Int.tmod more 32))) (if 8192 < IntKind.wrap IntKind.i64 (mz n0 n1 n2 n3 n4 n5 n6 + IntKind.wrap IntKind.i64 size) then 8192 else IntKind.wrap IntKind.i64 (mz n0 n1 n2 n3 n4 n5 n6 + IntKind.wrap IntKind.i64 size)) (mr n0 n1 n2 n3 n4 n5 n6) (if IntKind.wrap IntKind.i64 (2 * IntKind.wrap IntKind.i64 (IntKind.wrap IntKind.i64 (IntKind.wrap IntKind.i64 (16 + mk n0 n1 n2 n3 n4 n5 n6) + mv n0 n1 n2 n3 n4 n5 n6) + 16)) > IntKind.wrap IntKind.i64 (mw n0 n1 n2 n3 n4 n5 n6 - IntKind.wrap IntKind.i64 work) then IntKind.wrap IntKind.i64 (2 * IntKind.wrap IntKind.i64 (IntKind.wrap IntKind.i64 (IntKind.wrap IntKind.i64 (16 + mk n0 n1 n2 n3 n4 n5 n6) + mv n0 n1 n2 n3 n4 n5 n6) + 16)) else IntKind.wrap IntKind.i64 (mw n0 n1 n2 n3 n4 n5 n6 - IntKind.wrap IntKind.i64 work)) (mk n0 n1 n2 n3 n4 n5 n6) (mv n0 n1 n2 n3 n4 n5 n6) (mp n0 n1 n2 n3 n4 n5 n6)) then
        (bif c (ms n0 n1 n2 n3 n4 n5 n6) (mz n0 n1 n2 n3 n4 n5 n6) (mr n0 n1 n2 n3 n4 n5 n6) (mw n0 n1 n2 n3 n4 n5 n6) (mk n0 n1 n2 n3 n4 n5 n6) (mv n0 n1 n2 n3 n4 n5 n6) (mp n0 n1 n2 n3 n4 n5 n6) == IntKind.wrap IntKind.i64 (3 * ms n0 n1 n2 n3 n4 n5 n6) then
         (bif a (ms n0 n1 n2 n3 n4 n5 n6) (mz n0 n1 n2 n3 n4 n5 n6) (mr n0 n1 n2 n3 n4 n5 n6) (mw n0 n1 n2 n3 n4 n5 n6) (mk n0 n1 n2 n3 n4 n5 n6) (mv n0 n1 n2 n3 n4 n5 n6) (mp n0 n1 n2 n3 n4 n5 n6) == IntKind.wrap IntKind.i64 (c (ms n0 n1 n2 n3 n4 n5 n6) (mz n0 n1 n2 n3 n4 n5 n6) (mr n0 n1 n2 n3 n4 n5 n6) (mw n0 n1 n2 n3 n4 n5 n6) (mk n0 n1 n2 n3 n4 n5 n6) (mv n0 n1 n2 n3 n4 n5 n6) (mp n0 n1 n2 n3 n4 n5 n6) * e (ms n0 n1 n2 n3 n4 n5 n6) (mz n0 n1 n2 n3 n4 n5 n6) (mr n0 n1 n2 n3 n4 n5 n6) (mw n0 n1 n2 n3 n4 n5 n6) (mk n0 n1 n2 n3 n4 n5 n6) (mv n0 n1 n2 n3 n4 n5 n6) (mp n0 n1 n2 n3 n4 n5 n6)) then
          (Q (.bool true) [])
         else
          (Q (.bool false) []))
        else
         (Q (.bool false) []))
       else
        (Q (.bool false) []))
      else
       (Q (.bool false) []))
     else
      (Q (.bool false) []))
    else
     (Q (.bool false) []))
   else
    (Q (.bool false) []))
  else
   (Q (.bool false) []))
 else
  (Q (.bool false) []))) := by kernel_rfl
end Go.Ideal
