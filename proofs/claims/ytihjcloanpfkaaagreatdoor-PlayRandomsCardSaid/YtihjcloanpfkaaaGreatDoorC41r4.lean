/-
  Part of the proof: the machine that runs a program by fixed orders, and that each of its runs is a run of the model; or a run of it in parts. No conditions.
-/
import Derived.Test.YtihjcloanpfkaaaGreatDoorC41r3
set_option maxRecDepth 1000000
namespace Go.Ideal
open Go.Proofs
noncomputable def opO (k a b : Int) (key val : ByteArray) : IObj := .cells [.int .i64 k, .int .i64 a, .int .i64 b, .string key, .string val] 0 false
noncomputable def po : Value := .pointer (some ⟨21, 0, none⟩)
noncomputable def pfB : Pf := fun f => bif Nat.beq f 50 then some (footPf tabLaid 20 [true] belowG) else bif Nat.beq f 32 then some pItoa else bif Nat.beq f 76 then some pJoin else bif Nat.beq f 74 then some pRepeat else none
noncomputable abbrev bFs : List (FuncId × IFun) := [(50, footF tabLaid 20 [true] belowG), (32, itoaI), (76, joinI), (74, repeatI)]
noncomputable def XB : Ctx := ctxI Tryz.prog tabLaid bFs
/-- fillCrash at the head of its loop, nothing kept yet. -/
noncomputable def fcT (x s z r w k v p kd a b : Int) (key val : ByteArray) (n : Int) : Cfg :=
  ⟨⟨49, mkT [(0, pd), (1, po), (4, .slice none 0 0), (17, .int .i64 n), (18, .int .i64 0)], 38, [.code (pcOf Tryz.prog 49 [1, 1, 0, 1, 0, 0]), .inLoop (pcOf Tryz.prog 49 [1, 1, 0, 1, 0, 0]), .inBlock 0, .code (pcOf Tryz.prog 49 [1, 1, 1])], [], false, .normal, none⟩, [],
    (hp0.alloc (dice x s z r w k v p)).alloc (opO kd a b key val)⟩
def fcS : Stop := ⟨49, 0, 3, 22, [20, 21], [0, 1, 4, 17, 18]⟩
theorem vc_fc0 (x s z r w k v p kd a b : Int) (key val : ByteArray) (Q : Value → List (Option IObj) → Prop) (R : Cfg → Prop) : VCs XB pfB 49 [20, 21] fcS Q R 2000 (st 49 38 [pd, po] ((hp0.alloc (dice x s z r w k v p)).alloc (opO kd a b key val))) = (
 ((0 : Int) < 12) ∧
 ((0 : Int) < 2) ∧
 ((0 : Int) < 3) ∧
 (R (fcT (nx (nx (nx x))) s z r w k v p kd (dr x 12) (dr (nx x) 2) key val (IntKind.wrap IntKind.i64 (1 + dr (nx (nx x)) 3))))) := by kernel_rfl
theorem vc_fc1 (x s z r w k v p kd a b : Int) (key val : ByteArray) (Q : Value → List (Option IObj) → Prop) : VCp XB pfB 49 [20, 21] Q 2000 (fcT x s z r w k v p kd a b key val 1) = (
 (0 < IntKind.wrap IntKind.i64 (z + 1)) ∧
 (0 ≤ dr x (IntKind.wrap IntKind.i64 (z + 1)) ∧ dr x (IntKind.wrap IntKind.i64 (z + 1)) ≤ 9223372036854775807) ∧
 (ByteArray.size (joinB [decB (dr x (IntKind.wrap IntKind.i64 (z + 1)))] { data := #[44] }) ≤ 140737488355328) ∧
 (Q (.tuple ⟨[]⟩) [some (.cells [(.int IntKind.u32 (nx x)), (.int IntKind.i64 s), (.int IntKind.i64 z), (.int IntKind.i64 r), (.int IntKind.i64 w), (.int IntKind.i64 k), (.int IntKind.i64 v), (.int IntKind.i64 p)] 0 false), some (.cells [(.int IntKind.i64 kd), (.int IntKind.i64 a), (.int IntKind.i64 b), (.string key), (.string (joinB [decB (dr x (IntKind.wrap IntKind.i64 (z + 1)))] { data := #[44] }))] 0 false)])) := by kernel_rfl
theorem vc_fc2 (x s z r w k v p kd a b : Int) (key val : ByteArray) (Q : Value → List (Option IObj) → Prop) : VCp XB pfB 49 [20, 21] Q 2000 (fcT x s z r w k v p kd a b key val 2) = (
 (0 < IntKind.wrap IntKind.i64 (z + 1)) ∧
 (0 ≤ dr x (IntKind.wrap IntKind.i64 (z + 1)) ∧ dr x (IntKind.wrap IntKind.i64 (z + 1)) ≤ 9223372036854775807) ∧
 (0 < IntKind.wrap IntKind.i64 (z + 1)) ∧
 (0 ≤ dr (nx x) (IntKind.wrap IntKind.i64 (z + 1)) ∧ dr (nx x) (IntKind.wrap IntKind.i64 (z + 1)) ≤ 9223372036854775807) ∧
 (ByteArray.size (joinB [decB (dr x (IntKind.wrap IntKind.i64 (z + 1))), decB (dr (nx x) (IntKind.wrap IntKind.i64 (z + 1)))] { data := #[44] }) ≤ 140737488355328) ∧
 (Q (.tuple ⟨[]⟩) [some (.cells [(.int IntKind.u32 (nx (nx x))), (.int IntKind.i64 s), (.int IntKind.i64 z), (.int IntKind.i64 r), (.int IntKind.i64 w), (.int IntKind.i64 k), (.int IntKind.i64 v), (.int IntKind.i64 p)] 0 false), some (.cells [(.int IntKind.i64 kd), (.int IntKind.i64 a), (.int IntKind.i64 b), (.string key), (.string (joinB [decB (dr x (IntKind.wrap IntKind.i64 (z + 1))), decB (dr (nx x) (IntKind.wrap IntKind.i64 (z + 1)))] { data := #[44] }))] 0 false)])) := by kernel_rfl
theorem vc_fc3 (x s z r w k v p kd a b : Int) (key val : ByteArray) (Q : Value → List (Option IObj) → Prop) : VCp XB pfB 49 [20, 21] Q 2000 (fcT x s z r w k v p kd a b key val 3) = (
 (0 < IntKind.wrap IntKind.i64 (z + 1)) ∧
 (0 ≤ dr x (IntKind.wrap IntKind.i64 (z + 1)) ∧ dr x (IntKind.wrap IntKind.i64 (z + 1)) ≤ 9223372036854775807) ∧
 (0 < IntKind.wrap IntKind.i64 (z + 1)) ∧
 (0 ≤ dr (nx x) (IntKind.wrap IntKind.i64 (z + 1)) ∧ dr (nx x) (IntKind.wrap IntKind.i64 (z + 1)) ≤ 9223372036854775807) ∧
 (0 < IntKind.wrap IntKind.i64 (z + 1)) ∧
 (0 ≤ dr (nx (nx x)) (IntKind.wrap IntKind.i64 (z + 1)) ∧ dr (nx (nx x)) (IntKind.wrap IntKind.i64 (z + 1)) ≤ 9223372036854775807) ∧
 (ByteArray.size (joinB [decB (dr x (IntKind.wrap IntKind.i64 (z + 1))), decB (dr (nx x) (IntKind.wrap IntKind.i64 (z + 1))), decB (dr (nx (nx x)) (IntKind.wrap IntKind.i64 (z + 1)))] { data := #[44] }) ≤ 140737488355328) ∧
 (Q (.tuple ⟨[]⟩) [some (.cells [(.int IntKind.u32 (nx (nx (nx x)))), (.int IntKind.i64 s), (.int IntKind.i64 z), (.int IntKind.i64 r), (.int IntKind.i64 w), (.int IntKind.i64 k), (.int IntKind.i64 v), (.int IntKind.i64 p)] 0 false), some (.cells [(.int IntKind.i64 kd), (.int IntKind.i64 a), (.int IntKind.i64 b), (.string key), (.string (joinB [decB (dr x (IntKind.wrap IntKind.i64 (z + 1))), decB (dr (nx x) (IntKind.wrap IntKind.i64 (z + 1))), decB (dr (nx (nx x)) (IntKind.wrap IntKind.i64 (z + 1)))] { data := #[44] }))] 0 false)])) := by kernel_rfl
end Go.Ideal
