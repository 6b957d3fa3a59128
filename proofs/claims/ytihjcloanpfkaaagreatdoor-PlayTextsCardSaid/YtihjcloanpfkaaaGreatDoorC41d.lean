/-
  Part of the proof: the machine that runs a program by fixed orders, and that each of its runs is a run of the model; or a run of it in parts. No conditions.
-/
import Derived.Test.YtihjcloanpfkaaaGreatDoorP41b
import Derived.Test.YtihjcloanpfkaaaGreatDoorRepB41r
set_option maxRecDepth 1000000
namespace Go.Ideal
open Go.Proofs
noncomputable def pDigU (dg : Int → ByteArray) : PFun := fun args H K => match args with
  | [.int .u64 n] => (0 ≤ n ∧ n ≤ 16) ∧ K (.string (dg n)) H
  | _ => False
noncomputable def pDigI (dg : Int → ByteArray) : PFun := fun args H K => match args with
  | [.int .i64 n] => (0 ≤ n ∧ n ≤ 16) ∧ K (.string (dg n)) H
  | _ => False
open Classical in
noncomputable def fDigU (dg : Int → ByteArray) : IFun := fun args H => match args with
  | [.int .u64 n] => if 0 ≤ n ∧ n ≤ 16 then some (.string (dg n), H) else none
  | _ => none
open Classical in
noncomputable def fDigI (dg : Int → ByteArray) : IFun := fun args H => match args with
  | [.int .i64 n] => if 0 ≤ n ∧ n ≤ 16 then some (.string (dg n), H) else none
  | _ => none
noncomputable def fTx (vs : ByteArray → ByteArray) (ve : ByteArray → Int) : IFun := fun args H => match args with
  | [.string s] => some (.tuple ⟨[.string (vs s), .int .i64 (ve s)]⟩, H)
  | _ => none
noncomputable def pWrite (t e : TypeId) : PFun := fun args H K => match args with
  | [.pointer (some ⟨b, 0, none⟩), .string s] => match H.get b with
    | some (.abs (.bld t' e' l) false) => bif Nat.beq t' t && Nat.beq e' e then (l.length + s.size ≤ 140737488355328) ∧ K (.tuple ⟨[.int .i64 (Int.ofNat s.size), .nilIface]⟩) (H.put b (.abs (.bld t' e' (l ++ s.data.toList)) false)) else False
    | _ => False
  | _ => False
noncomputable def pfT (dg : Int → ByteArray) : Pf := fun f => bif Nat.beq f 36 then some (pDigU dg) else bif Nat.beq f 32 then some (pDigI dg) else bif Nat.beq f 31 then some (pWrite 75 5) else none
noncomputable def XT (dg : Int → ByteArray) (vs : ByteArray → ByteArray) (ve : ByteArray → Int) : Ctx := ctxI Tryz.prog tabLaid [(30, fTx vs ve), (35, fTx vs ve), (36, fDigU dg), (32, fDigI dg), (31, bldWriteI 75 5), (33, bldLenI 75 5), (34, bldStringI 75 5)]
noncomputable def plT (l : List (EK.C kES)) (acc : List UInt8) (i : Int) : Cfg :=
  ⟨⟨10, mkT [(4, .pointer (some ⟨21, 0, none⟩)), (12, .slice (some ⟨20, 0, some 0⟩) l.length capU), (13, .int .i64 l.length), (14, .int .i64 i)], 39, [.code (pcOf Tryz.prog 10 [1, 1, 1, 0, 1, 0, 0]), .inLoop (pcOf Tryz.prog 10 [1, 1, 1, 0, 1, 0, 0]), .inBlock 0, .code (pcOf Tryz.prog 10 [1, 1, 1, 1])], [], false, .normal, none⟩, [],
    (putRows hp0 true [⟨kES, l⟩]).alloc (.abs (.bld 75 5 acc) false)⟩
def plS : Stop := ⟨10, 0, 3, 21, [20], [4, 12, 13, 14]⟩
theorem vc_pl0 (dg : Int → ByteArray) (vs : ByteArray → ByteArray) (ve : ByteArray → Int) (l : List (EK.C kES)) (Q : Value → List (Option IObj) → Prop) (R : Cfg → Prop) : VCs (XT dg vs ve) (pfT dg) 10 [] plS Q R 2000 (st 10 39 [.slice (some ⟨20, 0, some 0⟩) l.length capU] (putRows hp0 true [⟨kES, l⟩])) = (
 (bif decide (Int.ofNat (List.length l) > 2000) then
  (Q (.tuple ⟨[(.string ({ data := #[] })), (.int IntKind.i64 10)]⟩) [])
 else
  (R (plT l [] 0)))) := by kernel_rfl
theorem vc_pl1 (dg : Int → ByteArray) (vs : ByteArray → ByteArray) (ve : ByteArray → Int) (l : List (EK.C kES)) (acc : List UInt8) (i : Int) (Q : Value → List (Option IObj) → Prop) (R : Cfg → Prop) : VCs (XT dg vs ve) (pfT dg) 10 [] plS Q R 2000 (plT l acc i) = (
 (bif decide (i < ↑(List.length l)) then
  (bif decide (0 ≤ i) && Nat.blt (Int.toNat i) (List.length l) then
   (bif Nat.blt (0 + Int.toNat i) (List.length l) then
    (bif decide (Prod.fst (List.getD l (0 + Int.toNat i) (EK.dflt kES)) ≥ 0) then
     (bif decide (Prod.fst (List.getD l (0 + Int.toNat i) (EK.dflt kES)) ≤ 16) then
      (bif decide (Int.ofNat (ByteArray.size (Prod.snd (List.getD l (0 + Int.toNat i) (EK.dflt kES)))) ≤ 512) then
       (bif Prod.fst (List.getD l (0 + Int.toNat i) (EK.dflt kES)) == 0 then
        (0 ≤ Prod.fst (List.getD l (0 + Int.toNat i) (EK.dflt kES)) ∧ Prod.fst (List.getD l (0 + Int.toNat i) (EK.dflt kES)) ≤ 16) ∧
        (bif Nat.ble (ByteArray.size (dg (Prod.fst (List.getD l (0 + Int.toNat i) (EK.dflt kES)))) + ByteArray.size { data := #[32] }) 9223372036854775807 then
         (bif Nat.ble (ByteArray.size (dg (Prod.fst (List.getD l (0 + Int.toNat i) (EK.dflt kES))) ++ { data := #[32] }) + ByteArray.size (vs (Prod.snd (List.getD l (0 + Int.toNat i) (EK.dflt kES))))) 9223372036854775807 then
          (bif Nat.ble (ByteArray.size (dg (Prod.fst (List.getD l (0 + Int.toNat i) (EK.dflt kES))) ++ { data := #[32] } ++ vs (Prod.snd (List.getD l (0 + Int.toNat i) (EK.dflt kES)))) + ByteArray.size { data := #[10] }) 9223372036854775807 then
           (List.length acc + ByteArray.size (dg (Prod.fst (List.getD l (0 + Int.toNat i) (EK.dflt kES))) ++ { data := #[32] } ++ vs (Prod.snd (List.getD l (0 + Int.toNat i) (EK.dflt kES))) ++ { data := #[10] }) ≤ 140737488355328) ∧
           (R (plT l (acc ++ Array.toList (ByteArray.data (dg (Prod.fst (List.getD l (0 + Int.toNat i) (EK.dflt kES))) ++ { data := #[32] } ++ vs (Prod.snd (List.getD l (0 + Int.toNat i) (EK.dflt kES))) ++ { data := #[10] }))) (IntKind.wrap IntKind.i64 (i + 1))))
          else
           False)
         else
          False)
        else
         False)
       else
        (bif ByteArray.toList (Prod.snd (List.getD l (0 + Int.toNat i) (EK.dflt kES))) == ByteArray.toList { data := #[] } then
         (0 ≤ Prod.fst (List.getD l (0 + Int.toNat i) (EK.dflt kES)) ∧ Prod.fst (List.getD l (0 + Int.toNat i) (EK.dflt kES)) ≤ 16) ∧
         (bif Nat.ble (ByteArray.size (dg (Prod.fst (List.getD l (0 + Int.toNat i) (EK.dflt kES)))) + ByteArray.size { data := #[32] }) 9223372036854775807 then
          (bif Nat.ble (ByteArray.size (dg (Prod.fst (List.getD l (0 + Int.toNat i) (EK.dflt kES))) ++ { data := #[32] }) + ByteArray.size (vs (Prod.snd (List.getD l (0 + Int.toNat i) (EK.dflt kES))))) 9223372036854775807 then
           (bif Nat.ble (ByteArray.size (dg (Prod.fst (List.getD l (0 + Int.toNat i) (EK.dflt kES))) ++ { data := #[32] } ++ vs (Prod.snd (List.getD l (0 + Int.toNat i) (EK.dflt kES)))) + ByteArray.size { data := #[10] }) 9223372036854775807 then
            (List.length acc + ByteArray.size (dg (Prod.fst (List.getD l (0 + Int.toNat i) (EK.dflt kES))) ++ { data := #[32] } ++ vs (Prod.snd (List.getD l (0 + Int.toNat i) (EK.dflt kES))) ++ { data := #[10] }) ≤ 140737488355328) ∧
            (R (plT l (acc ++ Array.toList (ByteArray.data (dg (Prod.fst (List.getD l (0 + Int.toNat i) (EK.dflt kES))) ++ { data := #[32] } ++ vs (Prod.snd (List.getD l (0 + Int.toNat i) (EK.dflt kES))) ++ { data := #[10] }))) (IntKind.wrap IntKind.i64 (i + 1))))
           else
            False)
          else
           False)
         else
          False)
        else
         (Q (.tuple ⟨[(.string ({ data := #[] })), (.int IntKind.i64 2)]⟩) [])))
      else
       (Q (.tuple ⟨[(.string ({ data := #[] })), (.int IntKind.i64 2)]⟩) []))
     else
      (Q (.tuple ⟨[(.string ({ data := #[] })), (.int IntKind.i64 2)]⟩) []))
    else
     (Q (.tuple ⟨[(.string ({ data := #[] })), (.int IntKind.i64 2)]⟩) []))
   else
    False)
  else
   False)
 else
  (bif decide (Int.ofNat (List.length acc) > 65536) then
   (Q (.tuple ⟨[(.string ({ data := #[] })), (.int IntKind.i64 9)]⟩) [])
  else
   (Q (.tuple ⟨[(.string ({ data := { toList := acc } })), (.int IntKind.i64 0)]⟩) [])))) := by kernel_rfl
noncomputable def rfT (l : List (EK.C kES)) (out : ByteArray) (long : Bool) (i : Int) : Cfg :=
  ⟨⟨11, mkT [(0, .slice (some ⟨20, 0, some 0⟩) l.length capU), (4, .string out), (5, .bool long), (6, .int .i64 i)], 73, [.code (pcOf Tryz.prog 11 [1, 1, 1, 1, 0, 1, 0, 0]), .inLoop (pcOf Tryz.prog 11 [1, 1, 1, 1, 0, 1, 0, 0]), .inBlock 0, .code (pcOf Tryz.prog 11 [1, 1, 1, 1, 1])], [], false, .normal, none⟩, [],
    putRows hp0 true [⟨kES, l⟩]⟩
def rfS : Stop := ⟨11, 0, 3, 21, [20], [0, 4, 5, 6]⟩
theorem vc_rf0 (dg : Int → ByteArray) (vs : ByteArray → ByteArray) (ve : ByteArray → Int) (l : List (EK.C kES)) (Q : Value → List (Option IObj) → Prop) (R : Cfg → Prop) : VCs (XT dg vs ve) (pfT dg) 11 [] rfS Q R 2000 (st 11 73 [.slice (some ⟨20, 0, some 0⟩) l.length capU] (putRows hp0 true [⟨kES, l⟩])) = (
 (bif decide (Int.ofNat (List.length l) > 2000) then
  (Q (.tuple ⟨[(.string ({ data := #[] })), (.int IntKind.i64 10)]⟩) [])
 else
  (R (rfT l ({ data := #[] }) false 0)))) := by kernel_rfl
theorem vc_rf1 (dg : Int → ByteArray) (vs : ByteArray → ByteArray) (ve : ByteArray → Int) (l : List (EK.C kES)) (out : ByteArray) (i : Int) (Q : Value → List (Option IObj) → Prop) (R : Cfg → Prop) : VCs (XT dg vs ve) (pfT dg) 11 [] rfS Q R 2000 (rfT l out false i) = (
 (bif decide (i < Int.ofNat (List.length l)) then
  (bif decide (0 ≤ i) && Nat.blt (Int.toNat i) (List.length l) then
   (bif Nat.blt (0 + Int.toNat i) (List.length l) then
    (bif decide (Prod.fst (List.getD l (0 + Int.toNat i) (EK.dflt kES)) < 0) then
     (Q (.tuple ⟨[(.string ({ data := #[] })), (.int IntKind.i64 2)]⟩) [])
    else
     (bif decide (Prod.fst (List.getD l (0 + Int.toNat i) (EK.dflt kES)) > 16) then
      (Q (.tuple ⟨[(.string ({ data := #[] })), (.int IntKind.i64 2)]⟩) [])
     else
      (bif decide (Int.ofNat (ByteArray.size (Prod.snd (List.getD l (0 + Int.toNat i) (EK.dflt kES)))) > 512) then
       (Q (.tuple ⟨[(.string ({ data := #[] })), (.int IntKind.i64 2)]⟩) [])
      else
       (bif Prod.fst (List.getD l (0 + Int.toNat i) (EK.dflt kES)) != 0 then
        (bif !ByteArray.toList (Prod.snd (List.getD l (0 + Int.toNat i) (EK.dflt kES))) == ByteArray.toList { data := #[] } then
         (Q (.tuple ⟨[(.string ({ data := #[] })), (.int IntKind.i64 2)]⟩) [])
        else
         (0 ≤ IntKind.wrap IntKind.u64 (Prod.fst (List.getD l (0 + Int.toNat i) (EK.dflt kES))) ∧ IntKind.wrap IntKind.u64 (Prod.fst (List.getD l (0 + Int.toNat i) (EK.dflt kES))) ≤ 16) ∧
         (bif Nat.ble (ByteArray.size out + ByteArray.size (dg (IntKind.wrap IntKind.u64 (Prod.fst (List.getD l (0 + Int.toNat i) (EK.dflt kES)))))) 9223372036854775807 then
          (bif Nat.ble (ByteArray.size (out ++ dg (IntKind.wrap IntKind.u64 (Prod.fst (List.getD l (0 + Int.toNat i) (EK.dflt kES))))) + ByteArray.size { data := #[32] }) 9223372036854775807 then
           (bif Nat.ble (ByteArray.size (out ++ dg (IntKind.wrap IntKind.u64 (Prod.fst (List.getD l (0 + Int.toNat i) (EK.dflt kES)))) ++ { data := #[32] }) + ByteArray.size (vs (Prod.snd (List.getD l (0 + Int.toNat i) (EK.dflt kES))))) 9223372036854775807 then
            (bif Nat.ble (ByteArray.size (out ++ dg (IntKind.wrap IntKind.u64 (Prod.fst (List.getD l (0 + Int.toNat i) (EK.dflt kES)))) ++ { data := #[32] } ++ vs (Prod.snd (List.getD l (0 + Int.toNat i) (EK.dflt kES)))) + ByteArray.size { data := #[10] }) 9223372036854775807 then
             (bif decide (Int.ofNat (ByteArray.size (out ++ dg (IntKind.wrap IntKind.u64 (Prod.fst (List.getD l (0 + Int.toNat i) (EK.dflt kES)))) ++ { data := #[32] } ++ vs (Prod.snd (List.getD l (0 + Int.toNat i) (EK.dflt kES))) ++ { data := #[10] })) > 65536) then
              (R (rfT l (out ++ dg (IntKind.wrap IntKind.u64 (Prod.fst (List.getD l (0 + Int.toNat i) (EK.dflt kES)))) ++ { data := #[32] } ++ vs (Prod.snd (List.getD l (0 + Int.toNat i) (EK.dflt kES))) ++ { data := #[10] }) true (IntKind.wrap IntKind.i64 (i + 1))))
             else
              (R (rfT l (out ++ dg (IntKind.wrap IntKind.u64 (Prod.fst (List.getD l (0 + Int.toNat i) (EK.dflt kES)))) ++ { data := #[32] } ++ vs (Prod.snd (List.getD l (0 + Int.toNat i) (EK.dflt kES))) ++ { data := #[10] }) false (IntKind.wrap IntKind.i64 (i + 1)))))
            else
             False)
           else
            False)
          else
           False)
         else
          False))
       else
        (0 ≤ IntKind.wrap IntKind.u64 (Prod.fst (List.getD l (0 + Int.toNat i) (EK.dflt kES))) ∧ IntKind.wrap IntKind.u64 (Prod.fst (List.getD l (0 + Int.toNat i) (EK.dflt kES))) ≤ 16) ∧
        (bif Nat.ble (ByteArray.size out + ByteArray.size (dg (IntKind.wrap IntKind.u64 (Prod.fst (List.getD l (0 + Int.toNat i) (EK.dflt kES)))))) 9223372036854775807 then
         (bif Nat.ble (ByteArray.size (out ++ dg (IntKind.wrap IntKind.u64 (Prod.fst (List.getD l (0 + Int.toNat i) (EK.dflt kES))))) + ByteArray.size { data := #[32] }) 9223372036854775807 then
          (bif Nat.ble (ByteArray.size (out ++ dg (IntKind.wrap IntKind.u64 (Prod.fst (List.getD l (0 + Int.toNat i) (EK.dflt kES)))) ++ { data := #[32] }) + ByteArray.size (vs (Prod.snd (List.getD l (0 + Int.toNat i) (EK.dflt kES))))) 9223372036854775807 then
           (bif Nat.ble (ByteArray.size (out ++ dg (IntKind.wrap IntKind.u64 (Prod.fst (List.getD l (0 + Int.toNat i) (EK.dflt kES)))) ++ { data := #[32] } ++ vs (Prod.snd (List.getD l (0 + Int.toNat i) (EK.dflt kES)))) + ByteArray.size { data := #[10] }) 9223372036854775807 then
            (bif decide (Int.ofNat (ByteArray.size (out ++ dg (IntKind.wrap IntKind.u64 (Prod.fst (List.getD l (0 + Int.toNat i) (EK.dflt kES)))) ++ { data := #[32] } ++ vs (Prod.snd (List.getD l (0 + Int.toNat i) (EK.dflt kES))) ++ { data := #[10] })) > 65536) then
             (R (rfT l (out ++ dg (IntKind.wrap IntKind.u64 (Prod.fst (List.getD l (0 + Int.toNat i) (EK.dflt kES)))) ++ { data := #[32] } ++ vs (Prod.snd (List.getD l (0 + Int.toNat i) (EK.dflt kES))) ++ { data := #[10] }) true (IntKind.wrap IntKind.i64 (i + 1))))
            else
             (R (rfT l (out ++ dg (IntKind.wrap IntKind.u64 (Prod.fst (List.getD l (0 + Int.toNat i) (EK.dflt kES)))) ++ { data := #[32] } ++ vs (Prod.snd (List.getD l (0 + Int.toNat i) (EK.dflt kES))) ++ { data := #[10] }) false (IntKind.wrap IntKind.i64 (i + 1)))))
           else
            False)
          else
           False)
         else
          False)
        else
         False)))))
   else
    False)
  else
   False)
 else
  (Q (.tuple ⟨[(.string out), (.int IntKind.i64 0)]⟩) []))) := by kernel_rfl
theorem vc_rf2 (dg : Int → ByteArray) (vs : ByteArray → ByteArray) (ve : ByteArray → Int) (l : List (EK.C kES)) (out : ByteArray) (i : Int) (Q : Value → List (Option IObj) → Prop) (R : Cfg → Prop) : VCs (XT dg vs ve) (pfT dg) 11 [] rfS Q R 2000 (rfT l out true i) = (
 (bif decide (i < Int.ofNat (List.length l)) then
  (bif decide (0 ≤ i) && Nat.blt (Int.toNat i) (List.length l) then
   (bif Nat.blt (0 + Int.toNat i) (List.length l) then
    (bif decide (Prod.fst (List.getD l (0 + Int.toNat i) (EK.dflt kES)) < 0) then
     (Q (.tuple ⟨[(.string ({ data := #[] })), (.int IntKind.i64 2)]⟩) [])
    else
     (bif decide (Prod.fst (List.getD l (0 + Int.toNat i) (EK.dflt kES)) > 16) then
      (Q (.tuple ⟨[(.string ({ data := #[] })), (.int IntKind.i64 2)]⟩) [])
     else
      (bif decide (Int.ofNat (ByteArray.size (Prod.snd (List.getD l (0 + Int.toNat i) (EK.dflt kES)))) > 512) then
       (Q (.tuple ⟨[(.string ({ data := #[] })), (.int IntKind.i64 2)]⟩) [])
      else
       (bif Prod.fst (List.getD l (0 + Int.toNat i) (EK.dflt kES)) != 0 then
        (bif !ByteArray.toList (Prod.snd (List.getD l (0 + Int.toNat i) (EK.dflt kES))) == ByteArray.toList { data := #[] } then
         (Q (.tuple ⟨[(.string ({ data := #[] })), (.int IntKind.i64 2)]⟩) [])
        else
         (R (rfT l out true (IntKind.wrap IntKind.i64 (i + 1)))))
       else
        (R (rfT l out true (IntKind.wrap IntKind.i64 (i + 1))))))))
   else
    False)
  else
   False)
 else
  (Q (.tuple ⟨[(.string ({ data := #[] })), (.int IntKind.i64 9)]⟩) []))) := by kernel_rfl
end Go.Ideal
