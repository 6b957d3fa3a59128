/-
  Part of the proof: the machine that runs a program by fixed orders, and that each of its runs is a run of the model; or a run of it in parts. No conditions.
-/
import Derived.Test.YtihjcloanpfkaaaGreatDoorC41g
import Derived.Test.YtihjcloanpfkaaaGreatDoorIdVCs
set_option maxRecDepth 1000000
namespace Go.Ideal
open Go.Proofs
/-- What both Texts do: a row of results in, a string and an error out. -/
noncomputable def plG (ps : List (EK.C kES) → ByteArray) (pe : List (EK.C kES) → Int) (args : List Value) (objs : List IObj) : GT :=
  match args, objs with
  | [.slice (some ⟨20, 0, some 0⟩) n c], [.vec [.int .i64, .str] l _] => .ask (n = l.length ∧ c = capU) (.ret ⟨.tuple ⟨[.string (ps l), .int .i64 (pe l)]⟩, [], []⟩)
  | _, _ => .fail
noncomputable def pfP (ps : List (EK.C kES) → ByteArray) (pe : List (EK.C kES) → Int) : Pf := fun f => bif Nat.beq f 10 || Nat.beq f 11 then some (footPf tabLaid 20 [] (plG ps pe)) else none
noncomputable def XP (ps : List (EK.C kES) → ByteArray) (pe : List (EK.C kES) → Int) : Ctx := ctxI Tryz.prog tabLaid [(6, knownF wrkK), (10, footF tabLaid 20 [] (plG ps pe)), (11, footF tabLaid 20 [] (plG ps pe))]
noncomputable def XPN : Ctx := ctxI Tryz.prog tabLaid [(6, knownF wrkK), (31, bldWriteI 75 5), (33, bldLenI 75 5), (34, bldStringI 75 5)]
theorem vc_ptn (Q : Value → List (Option IObj) → Prop) : VC XPN 4 [] Q 3000 (st 4 65 [.slice none 0 0] hp0) = (
 (Q (.bool true) [])) := by kernel_rfl
noncomputable def ptT (l : List (EK.C kES)) (sv : Value) (m n i : Int) : Cfg :=
  ⟨⟨4, mkT [(0, .slice (some ⟨20, 0, some 0⟩) l.length capU), (3, .int .i64 n), (14, sv), (15, .int .i64 m), (16, .int .i64 i)], 65, [.code (pcOf Tryz.prog 4 [1, 1, 0, 1, 0, 0]), .inLoop (pcOf Tryz.prog 4 [1, 1, 0, 1, 0, 0]), .inBlock 0, .code (pcOf Tryz.prog 4 [1, 1, 1])], [], false, .normal, none⟩, [],
    putRows hp0 true [⟨kES, l⟩]⟩
def ptS0 : Stop := ⟨4, 0, 3, 21, [20], [0, 3, 14, 15, 16]⟩
theorem vc_pt0 (ps : List (EK.C kES) → ByteArray) (pe : List (EK.C kES) → Int) (l : List (EK.C kES)) (Q : Value → List (Option IObj) → Prop) (R : Cfg → Prop) : VCs (XP ps pe) (pfP ps pe) 4 [] ptS0 Q R 2000 (st 4 65 [.slice (some ⟨20, 0, some 0⟩) l.length capU] (putRows hp0 true [⟨kES, l⟩])) = (
 (bif decide (0 ≤ if 201 < Int.ofNat (List.length l) then 201 else Int.ofNat (List.length l)) && Nat.ble (Int.toNat (if 201 < Int.ofNat (List.length l) then 201 else Int.ofNat (List.length l))) (List.length l) && decide (0 ≤ 0) && Nat.ble 0 (Int.toNat (if 201 < Int.ofNat (List.length l) then 201 else Int.ofNat (List.length l))) then
  (R (ptT l (.slice (some ⟨20, 0, (some 0)⟩) (Int.toNat (if 201 < Int.ofNat (List.length l) then 201 else Int.ofNat (List.length l)) - 0) 18446744073709551616) (Int.ofNat (Int.toNat (if 201 < Int.ofNat (List.length l) then 201 else Int.ofNat (List.length l)) - 0)) 0 0))
 else
  False)) := by kernel_rfl
theorem vc_pt1 (ps : List (EK.C kES) → ByteArray) (pe : List (EK.C kES) → Int) (l : List (EK.C kES)) (k : Nat) (m n i : Int) (Q : Value → List (Option IObj) → Prop) (R : Cfg → Prop) : VCs (XP ps pe) (pfP ps pe) 4 [] ptS0 Q R 2000 (ptT l (.slice (some ⟨20, 0, some 0⟩) k capU) m n i) = (
 (bif decide (i < m) then
  (bif decide (0 ≤ i) && Nat.blt (Int.toNat i) k then
   (bif Nat.blt (0 + Int.toNat i) (List.length l) then
    (R (ptT l (.slice (some ⟨20, 0, (some 0)⟩) k 18446744073709551616) m (IntKind.wrap IntKind.i64 (n + Int.ofNat (ByteArray.size (Prod.snd (List.getD l (0 + Int.toNat i) (EK.dflt kES)))))) (IntKind.wrap IntKind.i64 (i + 1))))
   else
    False)
  else
   False)
 else
  (bif decide (Int.ofNat (List.length l) > 200) then
   (bif decide (Int.ofNat (List.length l) ≤ 2000) then
    (Q (.bool true) [])
   else
    (bif decide (Int.ofNat (List.length l) > 2005) then
     (Q (.bool true) [])
    else
     (bif decide (n > 20000) then
      (Q (.bool true) [])
     else
      (List.length l = List.length l ∧ capU = capU) ∧
      (List.length l = List.length l ∧ capU = capU) ∧
      (bif ByteArray.toList (ps l) == ByteArray.toList (ps l) then
       (bif pe l == pe l then
        (Q (.bool true) [])
       else
        (Q (.bool false) []))
      else
       (Q (.bool false) [])))))
  else
   (bif decide (Int.ofNat (List.length l) > 2005) then
    (Q (.bool true) [])
   else
    (bif decide (n > 20000) then
     (Q (.bool true) [])
    else
     (List.length l = List.length l ∧ capU = capU) ∧
     (List.length l = List.length l ∧ capU = capU) ∧
     (bif ByteArray.toList (ps l) == ByteArray.toList (ps l) then
      (bif pe l == pe l then
       (Q (.bool true) [])
      else
       (Q (.bool false) []))
     else
      (Q (.bool false) []))))))) := by kernel_rfl
end Go.Ideal
