/-
  Part of the proof: the machine that runs a program by fixed orders, and that each of its runs is a run of the model; or a run of it in parts. No conditions.
-/
import Derived.Test.YtihjcloanpfkaaaGreatDoorC41g
import Derived.Test.YtihjcloanpfkaaaGreatDoorP41r
import Derived.Test.YtihjcloanpfkaaaGreatDoorRepB41r
set_option maxRecDepth 1000000
namespace Go.Ideal
open Go.Proofs
noncomputable def dice (x s z r w k v p : Int) : IObj := .cells [.int .u32 x, .int .i64 s, .int .i64 z, .int .i64 r, .int .i64 w, .int .i64 k, .int .i64 v, .int .i64 p] 0 false
noncomputable def draws (x s z r w k v p : Int) (cr : Bool) : IObj := .cells [.int .u64 x, .int .i64 s, .int .i64 z, .int .i64 r, .int .i64 w, .int .i64 k, .int .i64 v, .int .i64 p, .bool cr] 0 false
noncomputable def pd : Value := .pointer (some ⟨20, 0, none⟩)
theorem vc_below (x s z r w k v p n : Int) (Q : Value → List (Option IObj) → Prop) : VC X0 50 [20] Q 1000 (st 50 22 [pd, .int .i64 n] (hp0.alloc (dice x s z r w k v p))) = (
 (bif decide (n ≠ 0) then
  (Q (.int IntKind.i64 (Int.tmod (IntKind.wrap IntKind.i64 (Int.fdiv (IntKind.wrap IntKind.u32 (IntKind.wrap IntKind.u32 (69069 * x) + 1)) (2 ^ min 16 (IntKind.bits IntKind.u32)))) n)) [some (.cells [(.int IntKind.u32 (IntKind.wrap IntKind.u32 (IntKind.wrap IntKind.u32 (69069 * x) + 1))), (.int IntKind.i64 s), (.int IntKind.i64 z), (.int IntKind.i64 r), (.int IntKind.i64 w), (.int IntKind.i64 k), (.int IntKind.i64 v), (.int IntKind.i64 p)] 0 false)])
 else
  False)) := by kernel_rfl
theorem vc_rbelow (x s z r w k v p n : Int) (cr : Bool) (Q : Value → List (Option IObj) → Prop) : VC X0 52 [20] Q 1000 (st 52 23 [pd, .int .i64 n] (hp0.alloc (draws x s z r w k v p cr))) = (
 (bif decide (n ≠ 0) then
  (Q (.int IntKind.i64 (Int.tmod (IntKind.wrap IntKind.i64 (IntKind.wrap IntKind.u64 (Int.tdiv (Int.tmod (IntKind.wrap IntKind.u64 (IntKind.wrap IntKind.u64 (69069 * x) + 1)) 4294967296) 65536))) n)) [some (.cells [(.int IntKind.u64 (Int.tmod (IntKind.wrap IntKind.u64 (IntKind.wrap IntKind.u64 (69069 * x) + 1)) 4294967296)), (.int IntKind.i64 s), (.int IntKind.i64 z), (.int IntKind.i64 r), (.int IntKind.i64 w), (.int IntKind.i64 k), (.int IntKind.i64 v), (.int IntKind.i64 p), (.bool cr)] 0 false)])
 else
  False)) := by kernel_rfl
noncomputable def cfgV (s z r w k v p : Int) : Value := .agg ⟨[.int .i64 s, .int .i64 z, .int .i64 r, .int .i64 w, .int .i64 k, .int .i64 v, .int .i64 p]⟩
theorem vc_conf (s z r w k v p : Int) (Q : Value → List (Option IObj) → Prop) : VC X0 24 [] Q 1000 (st 24 55 [cfgV s z r w k v p] hp0) = (
 (((.int IntKind.i64 0) : Value) = (.int IntKind.i64 0)) ∧
 (((.agg ⟨[(.int IntKind.i64 p), (.int IntKind.i64 1), (.int IntKind.i64 2)]⟩) : Value) = (.agg ⟨[(.int IntKind.i64 p), (.int IntKind.i64 1), (.int IntKind.i64 2)]⟩)) ∧
 (((.int IntKind.i64 p) : Value) = (.int IntKind.i64 p)) ∧
 (((.pointer (some ⟨20, 6, none⟩)) : Value) = (.pointer (some ⟨20, 6, none⟩))) ∧
 (((.agg ⟨[(.int IntKind.i64 s), (.int IntKind.i64 z), (.int IntKind.i64 r), (.int IntKind.i64 w), (.int IntKind.i64 k), (.int IntKind.i64 v), (.int IntKind.i64 p)]⟩) : Value) = (.agg ⟨[(.int IntKind.i64 s), (.int IntKind.i64 z), (.int IntKind.i64 r), (.int IntKind.i64 w), (.int IntKind.i64 k), (.int IntKind.i64 v), (.int IntKind.i64 p)]⟩)) ∧
 (((.int IntKind.i64 w) : Value) = (.int IntKind.i64 w)) ∧
 (((.pointer (some ⟨20, 3, none⟩)) : Value) = (.pointer (some ⟨20, 3, none⟩))) ∧
 (((.int IntKind.i64 z) : Value) = (.int IntKind.i64 z)) ∧
 (((.pointer (some ⟨20, 1, none⟩)) : Value) = (.pointer (some ⟨20, 1, none⟩))) ∧
 (((.agg ⟨[(.int IntKind.i64 v), (.int IntKind.i64 0), (.int IntKind.i64 512)]⟩) : Value) = (.agg ⟨[(.int IntKind.i64 v), (.int IntKind.i64 0), (.int IntKind.i64 512)]⟩)) ∧
 (((.int IntKind.i64 v) : Value) = (.int IntKind.i64 v)) ∧
 (((.pointer (some ⟨20, 5, none⟩)) : Value) = (.pointer (some ⟨20, 5, none⟩))) ∧
 (((.agg ⟨[(.int IntKind.i64 k), (.int IntKind.i64 1), (.int IntKind.i64 32)]⟩) : Value) = (.agg ⟨[(.int IntKind.i64 k), (.int IntKind.i64 1), (.int IntKind.i64 32)]⟩)) ∧
 (((.int IntKind.i64 k) : Value) = (.int IntKind.i64 k)) ∧
 (((.pointer (some ⟨20, 4, none⟩)) : Value) = (.pointer (some ⟨20, 4, none⟩))) ∧
 (((.agg ⟨[(.int IntKind.i64 s), (.int IntKind.i64 (IntKind.wrap IntKind.i64 (r + 2))), (.int IntKind.i64 32)]⟩) : Value) = (.agg ⟨[(.int IntKind.i64 s), (.int IntKind.i64 (IntKind.wrap IntKind.i64 (r + 2))), (.int IntKind.i64 32)]⟩)) ∧
 (((.int IntKind.i64 (IntKind.wrap IntKind.i64 (r + 2))) : Value) = (.int IntKind.i64 (IntKind.wrap IntKind.i64 (r + 2)))) ∧
 (((.int IntKind.i64 r) : Value) = (.int IntKind.i64 r)) ∧
 (((.pointer (some ⟨20, 2, none⟩)) : Value) = (.pointer (some ⟨20, 2, none⟩))) ∧
 (((.int IntKind.i64 s) : Value) = (.int IntKind.i64 s)) ∧
 (((.pointer (some ⟨20, 0, none⟩)) : Value) = (.pointer (some ⟨20, 0, none⟩))) ∧
 (((.agg ⟨[(.int IntKind.i64 r), (.int IntKind.i64 2), (.int IntKind.i64 8)]⟩) : Value) = (.agg ⟨[(.int IntKind.i64 r), (.int IntKind.i64 2), (.int IntKind.i64 8)]⟩)) ∧
 (((.int IntKind.i64 r) : Value) = (.int IntKind.i64 r)) ∧
 (((.pointer (some ⟨20, 2, none⟩)) : Value) = (.pointer (some ⟨20, 2, none⟩))) ∧
 (((.agg ⟨[(.int IntKind.i64 z), (.int IntKind.i64 (IntKind.wrap IntKind.i64 (16 + IntKind.wrap IntKind.i64 (IntKind.wrap IntKind.i64 (16 + k) + v)))), (.int IntKind.i64 8192)]⟩) : Value) = (.agg ⟨[(.int IntKind.i64 z), (.int IntKind.i64 (IntKind.wrap IntKind.i64 (16 + IntKind.wrap IntKind.i64 (IntKind.wrap IntKind.i64 (16 + k) + v)))), (.int IntKind.i64 8192)]⟩)) ∧
 (((.int IntKind.i64 (IntKind.wrap IntKind.i64 (16 + IntKind.wrap IntKind.i64 (IntKind.wrap IntKind.i64 (16 + k) + v)))) : Value) = (.int IntKind.i64 (IntKind.wrap IntKind.i64 (16 + IntKind.wrap IntKind.i64 (IntKind.wrap IntKind.i64 (16 + k) + v))))) ∧
 (((.int IntKind.i64 0) : Value) = (.int IntKind.i64 0)) ∧
 (((.agg ⟨[(.int IntKind.i64 p), (.int IntKind.i64 1), (.int IntKind.i64 2)]⟩) : Value) = (.agg ⟨[(.int IntKind.i64 p), (.int IntKind.i64 1), (.int IntKind.i64 2)]⟩)) ∧
 (((.int IntKind.i64 p) : Value) = (.int IntKind.i64 p)) ∧
 (((.pointer (some ⟨20, 6, none⟩)) : Value) = (.pointer (some ⟨20, 6, none⟩))) ∧
 (((.int IntKind.i64 w) : Value) = (.int IntKind.i64 w)) ∧
 (((.pointer (some ⟨20, 3, none⟩)) : Value) = (.pointer (some ⟨20, 3, none⟩))) ∧
 (((.int IntKind.i64 z) : Value) = (.int IntKind.i64 z)) ∧
 (((.pointer (some ⟨20, 1, none⟩)) : Value) = (.pointer (some ⟨20, 1, none⟩))) ∧
 (((.agg ⟨[(.int IntKind.i64 v), (.int IntKind.i64 0), (.int IntKind.i64 512)]⟩) : Value) = (.agg ⟨[(.int IntKind.i64 v), (.int IntKind.i64 0), (.int IntKind.i64 512)]⟩)) ∧
 (((.int IntKind.i64 v) : Value) = (.int IntKind.i64 v)) ∧
 (((.pointer (some ⟨20, 5, none⟩)) : Value) = (.pointer (some ⟨20, 5, none⟩))) ∧
 (((.agg ⟨[(.int IntKind.i64 k), (.int IntKind.i64 1), (.int IntKind.i64 32)]⟩) : Value) = (.agg ⟨[(.int IntKind.i64 k), (.int IntKind.i64 1), (.int IntKind.i64 32)]⟩)) ∧
 (((.int IntKind.i64 k) : Value) = (.int IntKind.i64 k)) ∧
 (((.pointer (some ⟨20, 4, none⟩)) : Value) = (.pointer (some ⟨20, 4, none⟩))) ∧
 (((.agg ⟨[(.int IntKind.i64 s), (.int IntKind.i64 (IntKind.wrap IntKind.i64 (r + 2))), (.int IntKind.i64 32)]⟩) : Value) = (.agg ⟨[(.int IntKind.i64 s), (.int IntKind.i64 (IntKind.wrap IntKind.i64 (r + 2))), (.int IntKind.i64 32)]⟩)) ∧
 (((.int IntKind.i64 (IntKind.wrap IntKind.i64 (r + 2))) : Value) = (.int IntKind.i64 (IntKind.wrap IntKind.i64 (r + 2)))) ∧
 (((.int IntKind.i64 r) : Value) = (.int IntKind.i64 r)) ∧
 (((.pointer (some ⟨20, 2, none⟩)) : Value) = (.pointer (some ⟨20, 2, none⟩))) ∧
 (((.int IntKind.i64 s) : Value) = (.int IntKind.i64 s)) ∧
 (((.pointer (some ⟨20, 0, none⟩)) : Value) = (.pointer (some ⟨20, 0, none⟩))) ∧
 (((.agg ⟨[(.int IntKind.i64 r), (.int IntKind.i64 2), (.int IntKind.i64 8)]⟩) : Value) = (.agg ⟨[(.int IntKind.i64 r), (.int IntKind.i64 2), (.int IntKind.i64 8)]⟩)) ∧
 (((.int IntKind.i64 r) : Value) = (.int IntKind.i64 r)) ∧
 (((.pointer (some ⟨20, 2, none⟩)) : Value) = (.pointer (some ⟨20, 2, none⟩))) ∧
 (bif decide (r < 2) then
  (Q (.int IntKind.i64 2) [])
 else
  (bif decide (r > 8) then
   (Q (.int IntKind.i64 2) [])
  else
   (bif decide (s < IntKind.wrap IntKind.i64 (r + 2)) then
    (Q (.int IntKind.i64 2) [])
   else
    (bif decide (s > 32) then
     (Q (.int IntKind.i64 2) [])
    else
     (bif decide (k < 1) then
      (Q (.int IntKind.i64 2) [])
     else
      (bif decide (k > 32) then
       (Q (.int IntKind.i64 2) [])
      else
       (bif decide (v < 0) then
        (Q (.int IntKind.i64 2) [])
       else
        (bif decide (v > 512) then
         (Q (.int IntKind.i64 2) [])
        else
         (bif decide (z < IntKind.wrap IntKind.i64 (16 + IntKind.wrap IntKind.i64 (IntKind.wrap IntKind.i64 (16 + k) + v))) then
          (Q (.int IntKind.i64 2) [])
         else
          (bif decide (z > 8192) then
           (Q (.int IntKind.i64 2) [])
          else
           (bif decide (w < IntKind.wrap IntKind.i64 (2 * IntKind.wrap IntKind.i64 (IntKind.wrap IntKind.i64 (IntKind.wrap IntKind.i64 (16 + k) + v) + 16))) then
            (Q (.int IntKind.i64 2) [])
           else
            (bif decide (w > 65536) then
             (Q (.int IntKind.i64 2) [])
            else
             (bif decide (p < 1) then
              (Q (.int IntKind.i64 2) [])
             else
              (bif decide (p > 2) then
               (Q (.int IntKind.i64 2) [])
              else
               (Q (.int IntKind.i64 0) [])))))))))))))))) := by kernel_rfl
theorem vc_ref (s z r w k v p : Int) (Q : Value → List (Option IObj) → Prop) : VC X0 27 [] Q 1000 (st 27 56 [cfgV s z r w k v p] hp0) = (
 (bif decide (r ≥ 2) then
  (bif decide (r ≤ 8) then
   (bif decide (s ≥ IntKind.wrap IntKind.i64 (r + 2)) then
    (bif decide (s ≤ 32) then
     (bif decide (k ≥ 1) then
      (bif decide (k ≤ 32) then
       (bif decide (v ≥ 0) then
        (bif decide (v ≤ 512) then
         (bif decide (z ≥ IntKind.wrap IntKind.i64 (16 + IntKind.wrap IntKind.i64 (IntKind.wrap IntKind.i64 (16 + k) + v))) then
          (bif decide (z ≤ 8192) then
           (bif decide (w ≥ IntKind.wrap IntKind.i64 (2 * IntKind.wrap IntKind.i64 (IntKind.wrap IntKind.i64 (IntKind.wrap IntKind.i64 (16 + k) + v) + 16))) then
            (bif decide (w ≤ 65536) then
             (bif decide (p ≥ 1) then
              (bif decide (p ≤ 2) then
               (Q (.int IntKind.i64 0) [])
              else
               (Q (.int IntKind.i64 2) []))
             else
              (Q (.int IntKind.i64 2) []))
            else
             (Q (.int IntKind.i64 2) []))
           else
            (Q (.int IntKind.i64 2) []))
          else
           (Q (.int IntKind.i64 2) []))
         else
          (Q (.int IntKind.i64 2) []))
        else
         (Q (.int IntKind.i64 2) []))
       else
        (Q (.int IntKind.i64 2) []))
      else
       (Q (.int IntKind.i64 2) []))
     else
      (Q (.int IntKind.i64 2) []))
    else
     (Q (.int IntKind.i64 2) []))
   else
    (Q (.int IntKind.i64 2) []))
  else
   (Q (.int IntKind.i64 2) []))
 else
  (Q (.int IntKind.i64 2) []))) := by kernel_rfl
open Classical in
/-- Digits of numbers below b. -/
noncomputable def fDgB (b : Int) : IFun := fun args H => match args with
  | [.int .u64 n] => if 0 ≤ n ∧ n < b then some (.string (decB n), H) else none
  | _ => none
noncomputable def pDgB (b : Int) : PFun := fun args H K => match args with
  | [.int .u64 n] => (0 ≤ n ∧ n < b) ∧ K (.string (decB n)) H
  | _ => False
noncomputable def XDg (b : Int) : Ctx := ctxI Tryz.prog tabLaid [(36, fDgB b)]
noncomputable def pfDg (b : Int) : Pf := fun f => bif Nat.beq f 36 then some (pDgB b) else none
theorem vc_dgB (b n : Int) (Q : Value → List (Option IObj) → Prop) : VCp (XDg b) (pfDg b) 36 [] Q 1000 (st 36 16 [.int .u64 n] hp0) = (
 (bif decide (n < 10) then
  (bif decide (0 ≤ IntKind.wrap IntKind.i64 (IntKind.wrap IntKind.i64 n + 1)) && Nat.ble (Int.toNat (IntKind.wrap IntKind.i64 (IntKind.wrap IntKind.i64 n + 1))) (ByteArray.size { data := #[48, 49, 50, 51, 52, 53, 54, 55, 56, 57, 97, 98, 99, 100, 101, 102] }) && decide (0 ≤ IntKind.wrap IntKind.i64 n) && Nat.ble (Int.toNat (IntKind.wrap IntKind.i64 n)) (Int.toNat (IntKind.wrap IntKind.i64 (IntKind.wrap IntKind.i64 n + 1))) then
   (Q (.string (ByteArray.extract { data := #[48, 49, 50, 51, 52, 53, 54, 55, 56, 57, 97, 98, 99, 100, 101, 102] } (Int.toNat (IntKind.wrap IntKind.i64 n)) (Int.toNat (IntKind.wrap IntKind.i64 (IntKind.wrap IntKind.i64 n + 1))))) [])
  else
   False)
 else
  (0 ≤ IntKind.wrap IntKind.u64 (Int.tdiv n 10) ∧ IntKind.wrap IntKind.u64 (Int.tdiv n 10) < b) ∧
  (bif decide (0 ≤ IntKind.wrap IntKind.i64 (IntKind.wrap IntKind.i64 (Int.tmod n 10) + 1)) && Nat.ble (Int.toNat (IntKind.wrap IntKind.i64 (IntKind.wrap IntKind.i64 (Int.tmod n 10) + 1))) (ByteArray.size { data := #[48, 49, 50, 51, 52, 53, 54, 55, 56, 57, 97, 98, 99, 100, 101, 102] }) && decide (0 ≤ IntKind.wrap IntKind.i64 (Int.tmod n 10)) && Nat.ble (Int.toNat (IntKind.wrap IntKind.i64 (Int.tmod n 10))) (Int.toNat (IntKind.wrap IntKind.i64 (IntKind.wrap IntKind.i64 (Int.tmod n 10) + 1))) then
   (bif Nat.ble (ByteArray.size (decB (IntKind.wrap IntKind.u64 (Int.tdiv n 10))) + ByteArray.size (ByteArray.extract { data := #[48, 49, 50, 51, 52, 53, 54, 55, 56, 57, 97, 98, 99, 100, 101, 102] } (Int.toNat (IntKind.wrap IntKind.i64 (Int.tmod n 10))) (Int.toNat (IntKind.wrap IntKind.i64 (IntKind.wrap IntKind.i64 (Int.tmod n 10) + 1))))) 9223372036854775807 then
    (Q (.string (decB (IntKind.wrap IntKind.u64 (Int.tdiv n 10)) ++ ByteArray.extract { data := #[48, 49, 50, 51, 52, 53, 54, 55, 56, 57, 97, 98, 99, 100, 101, 102] } (Int.toNat (IntKind.wrap IntKind.i64 (Int.tmod n 10))) (Int.toNat (IntKind.wrap IntKind.i64 (IntKind.wrap IntKind.i64 (Int.tmod n 10) + 1))))) [])
   else
    False)
  else
   False))) := by kernel_rfl
end Go.Ideal
