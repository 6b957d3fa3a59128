/-
  Part of the proof: the machine that runs a program by fixed orders, and that each of its runs is a run of the model; or a run of it in parts. No conditions.
-/
import Derived.Test.YtihjcloanpfkaaaGreatDoorC41r12
set_option maxRecDepth 1000000
namespace Go.Ideal
open Go.Proofs
noncomputable abbrev hFs : List (FuncId × IFun) := [(27, fCfg), (28, footF tabLaid 20 [true] roG)]
noncomputable def XH : Ctx := ctxI Tryz.prog tabLaid hFs
noncomputable def pfH : Pf := fun f => bif Nat.beq f 28 then some (footPf tabLaid 20 [true] roG) else none
noncomputable def g8 (x s z r w k v p : Int) (cr : Bool) (out : Value) (n i : Int) (H : IHeap → IHeap) : Cfg :=
  ⟨⟨8, mkT [(2, .int .i64 n), (10, pd), (11, out), (12, .int .i64 i)], 39, [.code (pcOf Tryz.prog 8 [1, 1, 1, 1, 1, 0, 1, 0, 0]), .inLoop (pcOf Tryz.prog 8 [1, 1, 1, 1, 1, 0, 1, 0, 0]), .inBlock 0, .code (pcOf Tryz.prog 8 [1, 1, 1, 1, 1, 1])], [], false, .normal, none⟩, [],
    H (hp0.alloc (draws x s z r w k v p cr))⟩
noncomputable def r8N (x s z r w k v p : Int) (cr : Bool) (n : Int) : Cfg := g8 x s z r w k v p cr (.slice none 0 0) n 0 id
noncomputable def r8T (x s z r w k v p : Int) (cr : Bool) (n i : Int) (out : Value) (l : List (EK.C kOp)) : Cfg := g8 x s z r w k v p cr out n i fun H => H.alloc (.vec kOp l false)
def r8S : Stop := ⟨8, 0, 3, 20, [], [2, 10, 11, 12]⟩
theorem vc_8a (s z r w k v p seed n : Int) (cr : Bool) (Q : Value → List (Option IObj) → Prop) (R : Cfg → Prop) : VCs XH pfH 8 [] r8S Q R 3000 (st 8 39 [cfgV s z r w k v p, .int .u64 seed, .int .i64 n, .bool cr] hp0) = (
 (bif cfgErr s z r w k v p != 0 then
  (Q (.tuple ⟨[(.slice none 0 0), (.int IntKind.i64 2)]⟩) [])
 else
  (bif decide (n < 0) then
   (Q (.tuple ⟨[(.slice none 0 0), (.int IntKind.i64 2)]⟩) [])
  else
   (bif decide (n > 2000) then
    (Q (.tuple ⟨[(.slice none 0 0), (.int IntKind.i64 10)]⟩) [])
   else
    (bif cr then
     (R (r8N (Int.tmod seed 4294967296) s z r w k v p true n))
    else
     (R (r8N (Int.tmod seed 4294967296) s z r w k v p false n))))))) := by kernel_rfl
theorem vc_8b (x s z r w k v p : Int) (cr : Bool) (n : Int) (Q : Value → List (Option IObj) → Prop) (R : Cfg → Prop) : VCs XH pfH 8 [] r8S Q R 3000 (r8N x s z r w k v p cr n) = (
 (bif decide (0 < n) then
  ((0 ≤ z ∧ z ≤ 10000 ∧ 0 ≤ v ∧ v ≤ 1000) ∧ u32In x) ∧
  (R (r8T (Prod.snd (opS z v cr x)) s z r w k v p cr n 1 (.slice (some ⟨21, 0, (some 0)⟩) 1 18446744073709551616) ([(Prod.fst (Prod.fst (opS z v cr x)), Prod.fst (Prod.snd (Prod.fst (opS z v cr x))), Prod.fst (Prod.snd (Prod.snd (Prod.fst (opS z v cr x)))), Prod.fst (Prod.snd (Prod.snd (Prod.snd (Prod.fst (opS z v cr x))))), Prod.snd (Prod.snd (Prod.snd (Prod.snd (Prod.fst (opS z v cr x))))))])))
 else
  (Q (.tuple ⟨[(.slice none 0 0), (.int IntKind.i64 0)]⟩) []))) := by kernel_rfl
theorem vc_8c (x s z r w k v p : Int) (cr : Bool) (n i : Int) (l : List (EK.C kOp)) (Q : Value → List (Option IObj) → Prop) (R : Cfg → Prop) : VCs XH pfH 8 [] r8S Q R 3000 (r8T x s z r w k v p cr n i (.slice (some ⟨21, 0, some 0⟩) l.length capU) l) = (
 (bif decide (i < n) then
  ((0 ≤ z ∧ z ≤ 10000 ∧ 0 ≤ v ∧ v ≤ 1000) ∧ u32In x) ∧
  (bif true && Nat.ble (0 + List.length l) (List.length l) && bigOk 56 (List.length l + 1) then
   (R (r8T (Prod.snd (opS z v cr x)) s z r w k v p cr n (IntKind.wrap IntKind.i64 (i + 1)) (.slice (some ⟨21, 0, (some 0)⟩) (List.length l + 1) 18446744073709551616) (List.take (List.length l) (List.drop 0 l) ++ [(Prod.fst (Prod.fst (opS z v cr x)), Prod.fst (Prod.snd (Prod.fst (opS z v cr x))), Prod.fst (Prod.snd (Prod.snd (Prod.fst (opS z v cr x)))), Prod.fst (Prod.snd (Prod.snd (Prod.snd (Prod.fst (opS z v cr x))))), Prod.snd (Prod.snd (Prod.snd (Prod.snd (Prod.fst (opS z v cr x))))))])))
  else
   False)
 else
  (Q (.tuple ⟨[(.slice (some ⟨21, 0, (some 0)⟩) (List.length l) 18446744073709551616), (.int IntKind.i64 0)]⟩) [some (.vec kOp l false)]))) := by kernel_rfl
/-! Whether two scripts are equal. -/
noncomputable def eqT (l m : List (EK.C kOp)) (n i : Int) : Cfg :=
  ⟨⟨9, mkT [(0, .slice (some ⟨20, 0, some 0⟩) l.length capU), (1, .slice (some ⟨21, 0, some 0⟩) m.length capU), (12, .int .i64 n), (13, .int .i64 i)], 26, [.code (pcOf Tryz.prog 9 [1, 1, 0, 1, 0, 0]), .inLoop (pcOf Tryz.prog 9 [1, 1, 0, 1, 0, 0]), .inBlock 0, .code (pcOf Tryz.prog 9 [1, 1, 1])], [], false, .normal, none⟩, [],
    putRows hp0 true [⟨kOp, l⟩, ⟨kOp, m⟩]⟩
def eqS : Stop := ⟨9, 0, 3, 22, [20, 21], [0, 1, 12, 13]⟩
theorem vc_eq0 (l m : List (EK.C kOp)) (Q : Value → List (Option IObj) → Prop) (R : Cfg → Prop) : VCs X0 noPf 9 [] eqS Q R 3000 (st 9 26 [.slice (some ⟨20, 0, some 0⟩) l.length capU, .slice (some ⟨21, 0, some 0⟩) m.length capU] (putRows hp0 true [⟨kOp, l⟩, ⟨kOp, m⟩])) = (
 (bif Int.ofNat (List.length l) != Int.ofNat (List.length m) then
  (Q (.bool false) [])
 else
  (R (eqT l m (Int.ofNat (List.length l)) 0)))) := by kernel_rfl
theorem vc_eq1 (l m : List (EK.C kOp)) (n i : Int) (Q : Value → List (Option IObj) → Prop) (R : Cfg → Prop) : VCs X0 noPf 9 [] eqS Q R 3000 (eqT l m n i) = (
 (bif decide (i < n) then
  (bif decide (0 ≤ i) && Nat.blt (Int.toNat i) (List.length l) then
   (bif Nat.blt (0 + Int.toNat i) (List.length l) then
    (bif decide (0 ≤ i) && Nat.blt (Int.toNat i) (List.length m) then
     (bif Nat.blt (0 + Int.toNat i) (List.length m) then
      (bif !(Prod.fst (List.getD l (0 + Int.toNat i) (EK.dflt kOp)) == Prod.fst (List.getD m (0 + Int.toNat i) (EK.dflt kOp)) && (Prod.fst (Prod.snd (List.getD l (0 + Int.toNat i) (EK.dflt kOp))) == Prod.fst (Prod.snd (List.getD m (0 + Int.toNat i) (EK.dflt kOp))) && (Prod.fst (Prod.snd (Prod.snd (List.getD l (0 + Int.toNat i) (EK.dflt kOp)))) == Prod.fst (Prod.snd (Prod.snd (List.getD m (0 + Int.toNat i) (EK.dflt kOp)))) && (ByteArray.toList (Prod.fst (Prod.snd (Prod.snd (Prod.snd (List.getD l (0 + Int.toNat i) (EK.dflt kOp)))))) == ByteArray.toList (Prod.fst (Prod.snd (Prod.snd (Prod.snd (List.getD m (0 + Int.toNat i) (EK.dflt kOp)))))) && (ByteArray.toList (Prod.snd (Prod.snd (Prod.snd (Prod.snd (List.getD l (0 + Int.toNat i) (EK.dflt kOp)))))) == ByteArray.toList (Prod.snd (Prod.snd (Prod.snd (Prod.snd (List.getD m (0 + Int.toNat i) (EK.dflt kOp)))))) && true))))) then
       (Q (.bool false) [])
      else
       (R (eqT l m n (IntKind.wrap IntKind.i64 (i + 1)))))
     else
      False)
    else
     False)
   else
    False)
  else
   False)
 else
  (Q (.bool true) []))) := by kernel_rfl
theorem vc_eqn (Q : Value → List (Option IObj) → Prop) : VC X0 9 [] Q 3000 (st 9 26 [.slice none 0 0, .slice none 0 0] hp0) = (
 (Q (.bool true) [])) := by kernel_rfl
end Go.Ideal
