/-
  Part of the proof: the machine that runs a program by fixed orders, and that each of its runs is a run of the model; or a run of it in parts. No conditions.
-/
import Derived.Test.YtihjcloanpfkaaaGreatDoorC41r11
import Derived.Test.YtihjcloanpfkaaaGreatDoorC41c
set_option maxRecDepth 1000000
namespace Go.Ideal
open Go.Proofs
/-! The two scripts. -/
noncomputable abbrev gFs (cr : Bool) : List (FuncId × IFun) := [(24, fCfg), (26, footF tabLaid 20 [true, false] (opG cr))]
noncomputable def XG (cr : Bool) : Ctx := ctxI Tryz.prog tabLaid (gFs cr)
noncomputable def pfG (cr : Bool) : Pf := fun f => bif Nat.beq f 26 then some (footPf tabLaid 20 [true, false] (opG cr)) else none
noncomputable def g7 (cr : Bool) (x s z r w k v p : Int) (out : Value) (n i : Int) (H : IHeap → IHeap) : Cfg :=
  ⟨⟨7, mkT [(10, pd), (11, rs), (12, out), (31, .int .i64 n), (32, .int .i64 i)], 42, [.code (pcOf Tryz.prog 7 [1, 1, 1, 1, 0, 1, 0, 0]), .inLoop (pcOf Tryz.prog 7 [1, 1, 1, 1, 0, 1, 0, 0]), .inBlock 1, .code (pcOf Tryz.prog 7 [1, 1, 1, 1, 1])], [], false, .normal, none⟩, [],
    H ((hp0.alloc (dice x s z r w k v p)).alloc (recO cr false))⟩
noncomputable def r7Nt (x s z r w k v p n : Int) : Cfg := g7 true x s z r w k v p (.slice none 0 0) n 0 id
noncomputable def r7Nf (x s z r w k v p n : Int) : Cfg := g7 false x s z r w k v p (.slice none 0 0) n 0 id
noncomputable def g7T (cr : Bool) (x s z r w k v p n i : Int) (out : Value) (l : List (EK.C kOp)) : Cfg := g7 cr x s z r w k v p out n i fun H => H.alloc (.vec kOp l false)
noncomputable def r7Tt (x s z r w k v p n i : Int) (out : Value) (l : List (EK.C kOp)) : Cfg := g7T true x s z r w k v p n i out l
noncomputable def r7Tf (x s z r w k v p n i : Int) (out : Value) (l : List (EK.C kOp)) : Cfg := g7T false x s z r w k v p n i out l
def r7S : Stop := ⟨7, 0, 3, 20, [], [10, 11, 12, 31, 32]⟩
theorem vc_7at (s z r w k v p seed n : Int) (Q : Value → List (Option IObj) → Prop) (R : Cfg → Prop) : VCs (XG true) (pfG true) 7 [] r7S Q R 3000 (st 7 42 [cfgV s z r w k v p, .int .u64 seed, .int .i64 n, .bool true] hp0) = (
 (bif cfgErr s z r w k v p != 0 then
  (Q (.tuple ⟨[(.slice none 0 0), (.int IntKind.i64 2)]⟩) [])
 else
  (bif decide (n < 0) then
   (Q (.tuple ⟨[(.slice none 0 0), (.int IntKind.i64 2)]⟩) [])
  else
   (bif decide (n > 2000) then
    (Q (.tuple ⟨[(.slice none 0 0), (.int IntKind.i64 10)]⟩) [])
   else
    (((.agg ⟨[(.int IntKind.u32 (IntKind.wrap IntKind.u32 seed)), (.int IntKind.i64 s), (.int IntKind.i64 z), (.int IntKind.i64 r), (.int IntKind.i64 w), (.int IntKind.i64 k), (.int IntKind.i64 v), (.int IntKind.i64 p)]⟩) : Value) = (.agg ⟨[(.int IntKind.u32 (IntKind.wrap IntKind.u32 seed)), (.int IntKind.i64 s), (.int IntKind.i64 z), (.int IntKind.i64 r), (.int IntKind.i64 w), (.int IntKind.i64 k), (.int IntKind.i64 v), (.int IntKind.i64 p)]⟩)) ∧
    (((.agg ⟨[(.int IntKind.i64 s), (.int IntKind.i64 z), (.int IntKind.i64 r), (.int IntKind.i64 w), (.int IntKind.i64 k), (.int IntKind.i64 v), (.int IntKind.i64 p)]⟩) : Value) = (.agg ⟨[(.int IntKind.i64 s), (.int IntKind.i64 z), (.int IntKind.i64 r), (.int IntKind.i64 w), (.int IntKind.i64 k), (.int IntKind.i64 v), (.int IntKind.i64 p)]⟩)) ∧
    (((.int IntKind.u32 (IntKind.wrap IntKind.u32 seed)) : Value) = (.int IntKind.u32 (IntKind.wrap IntKind.u32 seed))) ∧
    (((.int IntKind.u64 seed) : Value) = (.int IntKind.u64 seed)) ∧
    (R (r7Nt (IntKind.wrap IntKind.u32 seed) s z r w k v p n)))))) := by kernel_rfl
theorem vc_7af (s z r w k v p seed n : Int) (Q : Value → List (Option IObj) → Prop) (R : Cfg → Prop) : VCs (XG false) (pfG false) 7 [] r7S Q R 3000 (st 7 42 [cfgV s z r w k v p, .int .u64 seed, .int .i64 n, .bool false] hp0) = (
 (bif cfgErr s z r w k v p != 0 then
  (Q (.tuple ⟨[(.slice none 0 0), (.int IntKind.i64 2)]⟩) [])
 else
  (bif decide (n < 0) then
   (Q (.tuple ⟨[(.slice none 0 0), (.int IntKind.i64 2)]⟩) [])
  else
   (bif decide (n > 2000) then
    (Q (.tuple ⟨[(.slice none 0 0), (.int IntKind.i64 10)]⟩) [])
   else
    (((.agg ⟨[(.int IntKind.u32 (IntKind.wrap IntKind.u32 seed)), (.int IntKind.i64 s), (.int IntKind.i64 z), (.int IntKind.i64 r), (.int IntKind.i64 w), (.int IntKind.i64 k), (.int IntKind.i64 v), (.int IntKind.i64 p)]⟩) : Value) = (.agg ⟨[(.int IntKind.u32 (IntKind.wrap IntKind.u32 seed)), (.int IntKind.i64 s), (.int IntKind.i64 z), (.int IntKind.i64 r), (.int IntKind.i64 w), (.int IntKind.i64 k), (.int IntKind.i64 v), (.int IntKind.i64 p)]⟩)) ∧
    (((.agg ⟨[(.int IntKind.i64 s), (.int IntKind.i64 z), (.int IntKind.i64 r), (.int IntKind.i64 w), (.int IntKind.i64 k), (.int IntKind.i64 v), (.int IntKind.i64 p)]⟩) : Value) = (.agg ⟨[(.int IntKind.i64 s), (.int IntKind.i64 z), (.int IntKind.i64 r), (.int IntKind.i64 w), (.int IntKind.i64 k), (.int IntKind.i64 v), (.int IntKind.i64 p)]⟩)) ∧
    (((.int IntKind.u32 (IntKind.wrap IntKind.u32 seed)) : Value) = (.int IntKind.u32 (IntKind.wrap IntKind.u32 seed))) ∧
    (((.int IntKind.u64 seed) : Value) = (.int IntKind.u64 seed)) ∧
    (R (r7Nf (IntKind.wrap IntKind.u32 seed) s z r w k v p n)))))) := by kernel_rfl
theorem vc_7bt (x s z r w k v p n : Int) (Q : Value → List (Option IObj) → Prop) (R : Cfg → Prop) : VCs (XG true) (pfG true) 7 [] r7S Q R 3000 (r7Nt x s z r w k v p n) = (
 (bif decide (0 < n) then
  ((0 ≤ z ∧ z ≤ 10000 ∧ 0 ≤ v ∧ v ≤ 1000) ∧ [Value.int IntKind.i64 9, Value.int IntKind.i64 1, Value.func (Fn.func 46) { toList := [] } { toList := [] }, Value.int IntKind.i64 3, Value.int IntKind.i64 3, Value.func (Fn.func 47) { toList := [] } { toList := [] }, Value.int IntKind.i64 3, Value.int IntKind.i64 2, Value.func (Fn.func 47) { toList := [] } { toList := [] }, Value.int IntKind.i64 1, Value.int IntKind.i64 4, Value.nilFunc, Value.int IntKind.i64 1, Value.int IntKind.i64 5, Value.nilFunc, Value.int IntKind.i64 1, Value.int IntKind.i64 8, Value.nilFunc, Value.int IntKind.i64 1, Value.int IntKind.i64 6, Value.func (Fn.func 48) { toList := [] } { toList := [] }, Value.int IntKind.i64 1, Value.int IntKind.i64 7, Value.func (Fn.func 49) { toList := [] } { toList := [] }] = recL true ∧ 3 = 3) ∧
  (R (r7Tt (Prod.snd (opS z v true x)) s z r w k v p n 1 (.slice (some ⟨22, 0, (some 0)⟩) 1 18446744073709551616) ([(Prod.fst (Prod.fst (opS z v true x)), Prod.fst (Prod.snd (Prod.fst (opS z v true x))), Prod.fst (Prod.snd (Prod.snd (Prod.fst (opS z v true x)))), Prod.fst (Prod.snd (Prod.snd (Prod.snd (Prod.fst (opS z v true x))))), Prod.snd (Prod.snd (Prod.snd (Prod.snd (Prod.fst (opS z v true x))))))])))
 else
  (Q (.tuple ⟨[(.slice none 0 0), (.int IntKind.i64 0)]⟩) []))) := by kernel_rfl
theorem vc_7bf (x s z r w k v p n : Int) (Q : Value → List (Option IObj) → Prop) (R : Cfg → Prop) : VCs (XG false) (pfG false) 7 [] r7S Q R 3000 (r7Nf x s z r w k v p n) = (
 (bif decide (0 < n) then
  ((0 ≤ z ∧ z ≤ 10000 ∧ 0 ≤ v ∧ v ≤ 1000) ∧ [Value.int IntKind.i64 9, Value.int IntKind.i64 1, Value.func (Fn.func 46) { toList := [] } { toList := [] }, Value.int IntKind.i64 3, Value.int IntKind.i64 3, Value.func (Fn.func 47) { toList := [] } { toList := [] }, Value.int IntKind.i64 3, Value.int IntKind.i64 2, Value.func (Fn.func 47) { toList := [] } { toList := [] }, Value.int IntKind.i64 1, Value.int IntKind.i64 4, Value.nilFunc, Value.int IntKind.i64 1, Value.int IntKind.i64 5, Value.nilFunc, Value.int IntKind.i64 1, Value.int IntKind.i64 5, Value.nilFunc, Value.int IntKind.i64 1, Value.int IntKind.i64 6, Value.func (Fn.func 48) { toList := [] } { toList := [] }, Value.int IntKind.i64 1, Value.int IntKind.i64 5, Value.nilFunc] = recL false ∧ 3 = 3) ∧
  (R (r7Tf (Prod.snd (opS z v false x)) s z r w k v p n 1 (.slice (some ⟨22, 0, (some 0)⟩) 1 18446744073709551616) ([(Prod.fst (Prod.fst (opS z v false x)), Prod.fst (Prod.snd (Prod.fst (opS z v false x))), Prod.fst (Prod.snd (Prod.snd (Prod.fst (opS z v false x)))), Prod.fst (Prod.snd (Prod.snd (Prod.snd (Prod.fst (opS z v false x))))), Prod.snd (Prod.snd (Prod.snd (Prod.snd (Prod.fst (opS z v false x))))))])))
 else
  (Q (.tuple ⟨[(.slice none 0 0), (.int IntKind.i64 0)]⟩) []))) := by kernel_rfl
theorem vc_7ct (x s z r w k v p n i : Int) (l : List (EK.C kOp)) (Q : Value → List (Option IObj) → Prop) (R : Cfg → Prop) : VCs (XG true) (pfG true) 7 [] r7S Q R 3000 (r7Tt x s z r w k v p n i (.slice (some ⟨22, 0, some 0⟩) l.length capU) l) = (
 (bif decide (i < n) then
  ((0 ≤ z ∧ z ≤ 10000 ∧ 0 ≤ v ∧ v ≤ 1000) ∧ [Value.int IntKind.i64 9, Value.int IntKind.i64 1, Value.func (Fn.func 46) { toList := [] } { toList := [] }, Value.int IntKind.i64 3, Value.int IntKind.i64 3, Value.func (Fn.func 47) { toList := [] } { toList := [] }, Value.int IntKind.i64 3, Value.int IntKind.i64 2, Value.func (Fn.func 47) { toList := [] } { toList := [] }, Value.int IntKind.i64 1, Value.int IntKind.i64 4, Value.nilFunc, Value.int IntKind.i64 1, Value.int IntKind.i64 5, Value.nilFunc, Value.int IntKind.i64 1, Value.int IntKind.i64 8, Value.nilFunc, Value.int IntKind.i64 1, Value.int IntKind.i64 6, Value.func (Fn.func 48) { toList := [] } { toList := [] }, Value.int IntKind.i64 1, Value.int IntKind.i64 7, Value.func (Fn.func 49) { toList := [] } { toList := [] }] = recL true ∧ 3 = 3) ∧
  (bif true && Nat.ble (0 + List.length l) (List.length l) && bigOk 56 (List.length l + 1) then
   (R (r7Tt (Prod.snd (opS z v true x)) s z r w k v p n (IntKind.wrap IntKind.i64 (i + 1)) (.slice (some ⟨22, 0, (some 0)⟩) (List.length l + 1) 18446744073709551616) (List.take (List.length l) (List.drop 0 l) ++ [(Prod.fst (Prod.fst (opS z v true x)), Prod.fst (Prod.snd (Prod.fst (opS z v true x))), Prod.fst (Prod.snd (Prod.snd (Prod.fst (opS z v true x)))), Prod.fst (Prod.snd (Prod.snd (Prod.snd (Prod.fst (opS z v true x))))), Prod.snd (Prod.snd (Prod.snd (Prod.snd (Prod.fst (opS z v true x))))))])))
  else
   False)
 else
  (Q (.tuple ⟨[(.slice (some ⟨22, 0, (some 0)⟩) (List.length l) 18446744073709551616), (.int IntKind.i64 0)]⟩) [some (.vec kOp l false)]))) := by kernel_rfl
theorem vc_7cf (x s z r w k v p n i : Int) (l : List (EK.C kOp)) (Q : Value → List (Option IObj) → Prop) (R : Cfg → Prop) : VCs (XG false) (pfG false) 7 [] r7S Q R 3000 (r7Tf x s z r w k v p n i (.slice (some ⟨22, 0, some 0⟩) l.length capU) l) = (
 (bif decide (i < n) then
  ((0 ≤ z ∧ z ≤ 10000 ∧ 0 ≤ v ∧ v ≤ 1000) ∧ [Value.int IntKind.i64 9, Value.int IntKind.i64 1, Value.func (Fn.func 46) { toList := [] } { toList := [] }, Value.int IntKind.i64 3, Value.int IntKind.i64 3, Value.func (Fn.func 47) { toList := [] } { toList := [] }, Value.int IntKind.i64 3, Value.int IntKind.i64 2, Value.func (Fn.func 47) { toList := [] } { toList := [] }, Value.int IntKind.i64 1, Value.int IntKind.i64 4, Value.nilFunc, Value.int IntKind.i64 1, Value.int IntKind.i64 5, Value.nilFunc, Value.int IntKind.i64 1, Value.int IntKind.i64 5, Value.nilFunc, Value.int IntKind.i64 1, Value.int IntKind.i64 6, Value.func (Fn.func 48) { toList := [] } { toList := [] }, Value.int IntKind.i64 1, Value.int IntKind.i64 5, Value.nilFunc] = recL false ∧ 3 = 3) ∧
  (bif true && Nat.ble (0 + List.length l) (List.length l) && bigOk 56 (List.length l + 1) then
   (R (r7Tf (Prod.snd (opS z v false x)) s z r w k v p n (IntKind.wrap IntKind.i64 (i + 1)) (.slice (some ⟨22, 0, (some 0)⟩) (List.length l + 1) 18446744073709551616) (List.take (List.length l) (List.drop 0 l) ++ [(Prod.fst (Prod.fst (opS z v false x)), Prod.fst (Prod.snd (Prod.fst (opS z v false x))), Prod.fst (Prod.snd (Prod.snd (Prod.fst (opS z v false x)))), Prod.fst (Prod.snd (Prod.snd (Prod.snd (Prod.fst (opS z v false x))))), Prod.snd (Prod.snd (Prod.snd (Prod.snd (Prod.fst (opS z v false x))))))])))
  else
   False)
 else
  (Q (.tuple ⟨[(.slice (some ⟨22, 0, (some 0)⟩) (List.length l) 18446744073709551616), (.int IntKind.i64 0)]⟩) [some (.vec kOp l false)]))) := by kernel_rfl
end Go.Ideal
