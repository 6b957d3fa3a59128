/-
  Part of the proof: the machine that runs a program by fixed orders, and that each of its runs is a run of the model; or a run of it in parts. No conditions.
-/
import Derived.Test.YtfeammikiohoeaaGreatDoorAbr
import Derived.Test.YtfeammikiohoeaaGreatDoorWrkK
import Derived.Test.YtfeammikiohoeaaGreatDoorIdPure
set_option maxRecDepth 1000000
namespace Go.Ideal
open Go.Proofs
noncomputable def st (f : FuncId) (n : Nat) (args : List Value) (H : IHeap) : Cfg := startC f (fillTmps 0 args .leaf) n (pcOf Tryz.prog f []) H
noncomputable def XN : Ctx := ctxI Tryz.prog tabLaid [(11, knownF wrkK)]
noncomputable def opV (k a b : Int) (key val : ByteArray) : Value := .agg ⟨[.int .i64 k, .int .i64 a, .int .i64 b, .string key, .string val]⟩
theorem vc_nil (k a b : Int) (key val : ByteArray) (Q : Value → List (Option IObj) → Prop) : VC XN 4 [] Q 3000 (st 4 53 [opV k a b key val] (heap0 tabLaid 20)) = (
 (bif decide (Int.ofNat (ByteArray.size key) > 600) then
  (Q (.bool true) [])
 else
  (bif decide (Int.ofNat (ByteArray.size val) > 600) then
   (Q (.bool true) [])
  else
   (Q (.bool true) [])))) := by kernel_rfl
end Go.Ideal
