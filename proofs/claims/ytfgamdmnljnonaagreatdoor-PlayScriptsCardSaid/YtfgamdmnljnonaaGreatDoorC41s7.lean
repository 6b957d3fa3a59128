/-
  Part of the proof: the machine that runs a program by fixed orders, and that each of its runs is a run of the model; or a run of it in parts. No conditions.
-/
import Derived.Test.YtfgamdmnljnonaaGreatDoorC41s6
set_option maxRecDepth 1000000
namespace Go.Ideal
open Go.Proofs
theorem vc_k0 (Q : Value → List (Option IObj) → Prop) : VC X0 f_key_Check [] Q 3000 (st f_key_Check 20 [.string (ltr 97 0)] hp0) = (
 (Q (.int IntKind.i64 0) [])) := by kernel_rfl
theorem vc_k1 (Q : Value → List (Option IObj) → Prop) : VC X0 f_key_Check [] Q 3000 (st f_key_Check 20 [.string (ltr 97 1)] hp0) = (
 (Q (.int IntKind.i64 0) [])) := by kernel_rfl
theorem vc_k2 (Q : Value → List (Option IObj) → Prop) : VC X0 f_key_Check [] Q 3000 (st f_key_Check 20 [.string (ltr 97 2)] hp0) = (
 (Q (.int IntKind.i64 0) [])) := by kernel_rfl
theorem vc_k3 (Q : Value → List (Option IObj) → Prop) : VC X0 f_key_Check [] Q 3000 (st f_key_Check 20 [.string (ltr 97 3)] hp0) = (
 (Q (.int IntKind.i64 0) [])) := by kernel_rfl
theorem vc_k4 (Q : Value → List (Option IObj) → Prop) : VC X0 f_key_Check [] Q 3000 (st f_key_Check 20 [.string (ltr 97 4)] hp0) = (
 (Q (.int IntKind.i64 0) [])) := by kernel_rfl
theorem vc_k5 (Q : Value → List (Option IObj) → Prop) : VC X0 f_key_Check [] Q 3000 (st f_key_Check 20 [.string (ltr 97 5)] hp0) = (
 (Q (.int IntKind.i64 0) [])) := by kernel_rfl
theorem vc_k6 (Q : Value → List (Option IObj) → Prop) : VC X0 f_key_Check [] Q 3000 (st f_key_Check 20 [.string (ltr 97 6)] hp0) = (
 (Q (.int IntKind.i64 0) [])) := by kernel_rfl
theorem vc_k7 (Q : Value → List (Option IObj) → Prop) : VC X0 f_key_Check [] Q 3000 (st f_key_Check 20 [.string (ltr 97 7)] hp0) = (
 (Q (.int IntKind.i64 0) [])) := by kernel_rfl
noncomputable abbrev ftFs : List (FuncId × IFun) := [(f_key_Check, qKey.F)]
noncomputable def XFt : Ctx := ctxI Tryz.prog tabLaid ftFs
noncomputable def pfFt : Pf := fun g => bif Nat.beq g f_key_Check then some pKey else noPf g
theorem vc_fits (s : ByteArray) (m : Int) (Q : Value → List (Option IObj) → Prop) : VCp XFt pfFt f_key_Fits [] Q 1000 (st f_key_Fits 21 [.string s, .int .i64 m] hp0) = (
 (bif decide (m < 1) then
  (Q (.int IntKind.i64 2) [])
 else
  (bif decide (m > 32) then
   (Q (.int IntKind.i64 2) [])
  else
   (isLet s) ∧
   (bif decide (Int.ofNat (ByteArray.size s) > m) then
    (Q (.int IntKind.i64 12) [])
   else
    (Q (.int IntKind.i64 0) []))))) := by kernel_rfl
theorem vc_vck (s : ByteArray) (m : Int) (Q : Value → List (Option IObj) → Prop) : VC X0 f_value_Check [] Q 1000 (st f_value_Check 17 [.string s, .int .i64 m] hp0) = (
 (bif decide (m < 0) then
  (Q (.int IntKind.i64 2) [])
 else
  (bif decide (m > 512) then
   (Q (.int IntKind.i64 2) [])
  else
   (bif decide (Int.ofNat (ByteArray.size s) > m) then
    (Q (.int IntKind.i64 12) [])
   else
    (Q (.int IntKind.i64 0) []))))) := by kernel_rfl
abbrev G7 := Int → Int → Int → Int → Int → Int → Int → Int
def u32J (n : Int) : Prop := 0 ≤ n ∧ n < 4294967296
noncomputable def nV (n0 n1 n2 n3 n4 n5 n6 : Int) : Value := .agg ⟨[.int .u32 n0, .int .u32 n1, .int .u32 n2, .int .u32 n3, .int .u32 n4, .int .u32 n5, .int .u32 n6]⟩
theorem vc_made (n0 n1 n2 n3 n4 n5 n6 : Int) (Q : Value → List (Option IObj) → Prop) : VC X0 f_drumlinlaw17_Made [] Q 3000 (st f_drumlinlaw17_Made 70 [nV n0 n1 n2 n3 n4 n5 n6] hp0) = (
 (bif decide (IntKind.wrap IntKind.i64 (IntKind.wrap IntKind.i64 (32 - IntKind.wrap IntKind.i64 (2 + IntKind.wrap IntKind.i64 (Int.tmod n0 7))) - 1) ≠ 0) then
  (bif decide (IntKind.wrap IntKind.i64 (IntKind.wrap IntKind.i64 (8176 - IntKind.wrap IntKind.i64 (IntKind.wrap IntKind.i64 (16 + IntKind.wrap IntKind.i64 (1 + IntKind.wrap IntKind.i64 (Int.tmod n1 32))) + IntKind.wrap IntKind.i64 (Int.tmod n2 513))) + 1) ≠ 0) then
   (bif decide (IntKind.wrap IntKind.i64 (IntKind.wrap IntKind.i64 (65536 - IntKind.wrap IntKind.i64 (2 * IntKind.wrap IntKind.i64 (IntKind.wrap IntKind.i64 (IntKind.wrap IntKind.i64 (16 + IntKind.wrap IntKind.i64 (1 + IntKind.wrap IntKind.i64 (Int.tmod n1 32))) + IntKind.wrap IntKind.i64 (Int.tmod n2 513)) + 16))) + 1) ≠ 0) then
    (Q (.agg ⟨[(.int IntKind.i64 (IntKind.wrap IntKind.i64 (IntKind.wrap IntKind.i64 (IntKind.wrap IntKind.i64 (2 + IntKind.wrap IntKind.i64 (Int.tmod n0 7)) + 2) + Int.tmod (IntKind.wrap IntKind.i64 n4) (IntKind.wrap IntKind.i64 (IntKind.wrap IntKind.i64 (32 - IntKind.wrap IntKind.i64 (2 + IntKind.wrap IntKind.i64 (Int.tmod n0 7))) - 1))))), (.int IntKind.i64 (IntKind.wrap IntKind.i64 (IntKind.wrap IntKind.i64 (16 + IntKind.wrap IntKind.i64 (IntKind.wrap IntKind.i64 (16 + IntKind.wrap IntKind.i64 (1 + IntKind.wrap IntKind.i64 (Int.tmod n1 32))) + IntKind.wrap IntKind.i64 (Int.tmod n2 513))) + Int.tmod (IntKind.wrap IntKind.i64 n5) (IntKind.wrap IntKind.i64 (IntKind.wrap IntKind.i64 (8176 - IntKind.wrap IntKind.i64 (IntKind.wrap IntKind.i64 (16 + IntKind.wrap IntKind.i64 (1 + IntKind.wrap IntKind.i64 (Int.tmod n1 32))) + IntKind.wrap IntKind.i64 (Int.tmod n2 513))) + 1))))), (.int IntKind.i64 (IntKind.wrap IntKind.i64 (2 + IntKind.wrap IntKind.i64 (Int.tmod n0 7)))), (.int IntKind.i64 (IntKind.wrap IntKind.i64 (IntKind.wrap IntKind.i64 (2 * IntKind.wrap IntKind.i64 (IntKind.wrap IntKind.i64 (IntKind.wrap IntKind.i64 (16 + IntKind.wrap IntKind.i64 (1 + IntKind.wrap IntKind.i64 (Int.tmod n1 32))) + IntKind.wrap IntKind.i64 (Int.tmod n2 513)) + 16)) + Int.tmod (IntKind.wrap IntKind.i64 n6) (IntKind.wrap IntKind.i64 (IntKind.wrap IntKind.i64 (65536 - IntKind.wrap IntKind.i64 (2 * IntKind.wrap IntKind.i64 (IntKind.wrap IntKind.i64 (IntKind.wrap IntKind.i64 (16 + IntKind.wrap IntKind.i64 (1 + IntKind.wrap IntKind.i64 (Int.tmod n1 32))) + IntKind.wrap IntKind.i64 (Int.tmod n2 513)) + 16))) + 1))))), (.int IntKind.i64 (IntKind.wrap IntKind.i64 (1 + IntKind.wrap IntKind.i64 (Int.tmod n1 32)))), (.int IntKind.i64 (IntKind.wrap IntKind.i64 (Int.tmod n2 513))), (.int IntKind.i64 (IntKind.wrap IntKind.i64 (1 + IntKind.wrap IntKind.i64 (Int.tmod n3 2))))]⟩) [])
   else
    False)
  else
   False)
 else
  False)) := by kernel_rfl
noncomputable def eqT2 (l m : List (EK.C kOp)) (nl nm : Nat) (n i : Int) : Cfg :=
  ⟨⟨f_slices_Equal_api_Op_api_Op, mkT [(0, .slice (some ⟨20, 0, some 0⟩) nl capU), (1, .slice (some ⟨21, 0, some 0⟩) nm capU), (12, .int .i64 n), (13, .int .i64 i)], 26, [.code (pcOf Tryz.prog f_slices_Equal_api_Op_api_Op [1, 1, 0, 1, 0, 0]), .inLoop (pcOf Tryz.prog f_slices_Equal_api_Op_api_Op [1, 1, 0, 1, 0, 0]), .inBlock 0, .code (pcOf Tryz.prog f_slices_Equal_api_Op_api_Op [1, 1, 1])], [], false, .normal, none⟩, [],
    putRows hp0 true [⟨kOp, l⟩, ⟨kOp, m⟩]⟩
theorem vc_eqa (l m : List (EK.C kOp)) (nl nm : Nat) (Q : Value → List (Option IObj) → Prop) (R : Cfg → Prop) : VCs X0 noPf f_slices_Equal_api_Op_api_Op [] eqS Q R 3000 (st f_slices_Equal_api_Op_api_Op 26 [.slice (some ⟨20, 0, some 0⟩) nl capU, .slice (some ⟨21, 0, some 0⟩) nm capU] (putRows hp0 true [⟨kOp, l⟩, ⟨kOp, m⟩])) = (
 (bif Int.ofNat nl != Int.ofNat nm then
  (Q (.bool false) [])
 else
  (R (eqT2 l m nl nm (Int.ofNat nl) 0)))) := by kernel_rfl
theorem vc_eqb (l m : List (EK.C kOp)) (nl nm : Nat) (n i : Int) (Q : Value → List (Option IObj) → Prop) (R : Cfg → Prop) : VCs X0 noPf f_slices_Equal_api_Op_api_Op [] eqS Q R 3000 (eqT2 l m nl nm n i) = (
 (bif decide (i < n) then
  (bif decide (0 ≤ i) && Nat.blt (Int.toNat i) nl then
   (bif Nat.blt (0 + Int.toNat i) (List.length l) then
    (bif decide (0 ≤ i) && Nat.blt (Int.toNat i) nm then
     (bif Nat.blt (0 + Int.toNat i) (List.length m) then
      (bif !(Prod.fst (List.getD l (0 + Int.toNat i) (EK.dflt kOp)) == Prod.fst (List.getD m (0 + Int.toNat i) (EK.dflt kOp)) && (Prod.fst (Prod.snd (List.getD l (0 + Int.toNat i) (EK.dflt kOp))) == Prod.fst (Prod.snd (List.getD m (0 + Int.toNat i) (EK.dflt kOp))) && (Prod.fst (Prod.snd (Prod.snd (List.getD l (0 + Int.toNat i) (EK.dflt kOp)))) == Prod.fst (Prod.snd (Prod.snd (List.getD m (0 + Int.toNat i) (EK.dflt kOp)))) && (ByteArray.toList (Prod.fst (Prod.snd (Prod.snd (Prod.snd (List.getD l (0 + Int.toNat i) (EK.dflt kOp)))))) == ByteArray.toList (Prod.fst (Prod.snd (Prod.snd (Prod.snd (List.getD m (0 + Int.toNat i) (EK.dflt kOp)))))) && (ByteArray.toList (Prod.snd (Prod.snd (Prod.snd (Prod.snd (List.getD l (0 + Int.toNat i) (EK.dflt kOp)))))) == ByteArray.toList (Prod.snd (Prod.snd (Prod.snd (Prod.snd (List.getD m (0 + Int.toNat i) (EK.dflt kOp)))))) && true))))) then
       (Q (.bool false) [])
      else
       (R (eqT2 l m nl nm n (IntKind.wrap IntKind.i64 (i + 1)))))
     else
      False)
    else
     False)
   else
    False)
  else
   False)
 else
  (Q (.bool true) []))) := by kernel_rfl
theorem vc_eqnr (l : List (EK.C kOp)) (Q : Value → List (Option IObj) → Prop) : VC X0 f_slices_Equal_api_Op_api_Op [] Q 3000 (st f_slices_Equal_api_Op_api_Op 26 [.slice none 0 0, .slice (some ⟨20, 0, some 0⟩) 0 capU] (putRows hp0 true [⟨kOp, l⟩])) = (
 (Q (.bool true) [])) := by kernel_rfl
end Go.Ideal
