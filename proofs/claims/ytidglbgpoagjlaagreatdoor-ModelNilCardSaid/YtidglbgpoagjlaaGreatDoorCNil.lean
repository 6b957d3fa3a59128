/-
  Part of the proof: the machine that runs a program by fixed orders, and that each of its runs is a run of the model; or a run of it in parts. No conditions.
-/
import Derived.Test.YtidglbgpoagjlaaGreatDoorIdCtx
import Derived.Test.YtidglbgpoagjlaaGreatDoorWrkK
import Derived.Test.YtidglbgpoagjlaaGreatDoorProg
set_option maxRecDepth 1000000
namespace Go.Ideal
open Go.Proofs
noncomputable def st (f : FuncId) (n : Nat) (args : List Value) (H : IHeap) : Cfg := startC f (fillTmps 0 args .leaf) n (pcOf Tryz.prog f []) H
noncomputable def XN : Ctx := ctxI Tryz.prog [] [(9, knownF wrkK)]
noncomputable def seenV (op : Bool) (k a b : Int) (key val : ByteArray) (e : Int) (rv : ByteArray) (ks vs : Option Addr) (nk ck nv cv : Nat) : Value := .agg ⟨[.bool op, .int .i64 k, .int .i64 a, .int .i64 b, .string key, .string val, .int .i64 e, .string rv, .slice ks nk ck, .slice vs nv cv]⟩
theorem vc_nil (op : Bool) (k a b : Int) (key val : ByteArray) (e : Int) (rv : ByteArray) (ks vs : Option Addr) (nk ck nv cv : Nat) (Q : Value → List (Option IObj) → Prop) : VC XN 6 [] Q 3000 (st 6 69 [seenV op k a b key val e rv ks vs nk ck nv cv] (heap0 [] 19)) = (
 (bif decide (Int.ofNat (ByteArray.size key) > 600) then
  (Q (.bool true) [])
 else
  (bif decide (Int.ofNat (ByteArray.size val) > 600) then
   (Q (.bool true) [])
  else
   (bif decide (Int.ofNat (ByteArray.size rv) > 600) then
    (Q (.bool true) [])
   else
    (bif decide (Int.ofNat nk > 20) then
     (Q (.bool true) [])
    else
     (bif decide (Int.ofNat nv > 20) then
      (Q (.bool true) [])
     else
      (((.slice none 0 0) : Value) = (.slice none 0 0)) ∧
      (((.slice none 0 0) : Value) = (.slice none 0 0)) ∧
      (Q (.bool true) []))))))) := by kernel_rfl
end Go.Ideal
