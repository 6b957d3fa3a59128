/-
  Part of the proof: the machine that runs a program by fixed orders, and that each of its runs is a run of the model; or a run of it in parts. No conditions.
-/
import Derived.Test.YtihjcloanpfkaaaGreatDoorC41r9
set_option maxRecDepth 1000000
namespace Go.Ideal
open Go.Proofs
noncomputable abbrev eFs : List (FuncId × IFun) := (54, footF tabLaid 20 [true] rcG) :: dFs
noncomputable def XE : Ctx := ctxI Tryz.prog tabLaid eFs
noncomputable def pfE : Pf := fun f => bif Nat.beq f 54 then some (footPf tabLaid 20 [true] rcG) else pfD f
/-- The put of op at the head of its loop. -/
noncomputable def rpT (x s z r w k v p : Int) (cr : Bool) (key acc : ByteArray) (n l i : Int) : Cfg :=
  ⟨⟨28, mkT [(2, p21), (4, p22), (5, .int .i64 n), (6, .int .i64 l), (7, .int .i64 i)], 86, [.code (pcOf Tryz.prog 28 [1, 1, 0, 0, 1, 0, 1, 1, 1, 0, 1, 0, 0]), .inLoop (pcOf Tryz.prog 28 [1, 1, 0, 0, 1, 0, 1, 1, 1, 0, 1, 0, 0]), .inBlock 1, .code (pcOf Tryz.prog 28 [1, 1, 0, 0, 1, 0, 1, 1, 1, 1]), .inBlock 0, .code (pcOf Tryz.prog 28 [1, 1, 1])], [], false, .normal, none⟩, [],
    ((hp0.alloc (draws x s z r w k v p cr)).alloc (opO 0 0 0 ByteArray.empty ByteArray.empty)).alloc (opO 1 0 0 key acc)⟩
def rpS : Stop := ⟨28, 0, 5, 21, [20], [2, 4, 5, 6, 7]⟩
theorem vc_rp0 (x s z r w k v p : Int) (cr : Bool) (Q : Value → List (Option IObj) → Prop) (R : Cfg → Prop) : VCs XE pfE 28 [20] rpS Q R 3000 (st 28 86 [pd] (hp0.alloc (draws x s z r w k v p cr))) = (
 ((0 : Int) < 20 ∧ u32In x) ∧
 (bif decide (dr x 20 ≤ 8) then
  ((0 : Int) < 8 ∧ u32In (nx x)) ∧
  (bif decide (0 ≤ IntKind.wrap IntKind.i64 (dr (nx x) 8 + 1)) && Nat.ble (Int.toNat (IntKind.wrap IntKind.i64 (dr (nx x) 8 + 1))) (ByteArray.size { data := #[97, 98, 99, 100, 101, 102, 103, 104] }) && decide (0 ≤ dr (nx x) 8) && Nat.ble (Int.toNat (dr (nx x) 8)) (Int.toNat (IntKind.wrap IntKind.i64 (dr (nx x) 8 + 1))) then
   (0 < IntKind.wrap IntKind.i64 (v + 1) ∧ u32In (nx (nx x))) ∧
   ((0 : Int) < 26 ∧ u32In (nx (nx (nx x)))) ∧
   (R (rpT (nx (nx (nx (nx x)))) s z r w k v p cr (ByteArray.extract { data := #[97, 98, 99, 100, 101, 102, 103, 104] } (Int.toNat (dr (nx x) 8)) (Int.toNat (IntKind.wrap IntKind.i64 (dr (nx x) 8 + 1)))) ({ data := #[] }) (dr (nx (nx x)) (IntKind.wrap IntKind.i64 (v + 1))) (dr (nx (nx (nx x))) 26) 0))
  else
   False)
 else
  (bif decide (dr x 20 ≤ 11) then
   ((0 : Int) < 8 ∧ u32In (nx x)) ∧
   (bif decide (0 ≤ IntKind.wrap IntKind.i64 (dr (nx x) 8 + 1)) && Nat.ble (Int.toNat (IntKind.wrap IntKind.i64 (dr (nx x) 8 + 1))) (ByteArray.size { data := #[97, 98, 99, 100, 101, 102, 103, 104] }) && decide (0 ≤ dr (nx x) 8) && Nat.ble (Int.toNat (dr (nx x) 8)) (Int.toNat (IntKind.wrap IntKind.i64 (dr (nx x) 8 + 1))) then
    (Q (.agg ⟨[(.int IntKind.i64 3), (.int IntKind.i64 0), (.int IntKind.i64 0), (.string (ByteArray.extract { data := #[97, 98, 99, 100, 101, 102, 103, 104] } (Int.toNat (dr (nx x) 8)) (Int.toNat (IntKind.wrap IntKind.i64 (dr (nx x) 8 + 1))))), (.string ({ data := #[] }))]⟩) [some (.cells [(.int IntKind.u64 (nx (nx x))), (.int IntKind.i64 s), (.int IntKind.i64 z), (.int IntKind.i64 r), (.int IntKind.i64 w), (.int IntKind.i64 k), (.int IntKind.i64 v), (.int IntKind.i64 p), (.bool cr)] 0 false)])
   else
    False)
  else
   (bif decide (dr x 20 ≤ 14) then
    ((0 : Int) < 8 ∧ u32In (nx x)) ∧
    (bif decide (0 ≤ IntKind.wrap IntKind.i64 (dr (nx x) 8 + 1)) && Nat.ble (Int.toNat (IntKind.wrap IntKind.i64 (dr (nx x) 8 + 1))) (ByteArray.size { data := #[97, 98, 99, 100, 101, 102, 103, 104] }) && decide (0 ≤ dr (nx x) 8) && Nat.ble (Int.toNat (dr (nx x) 8)) (Int.toNat (IntKind.wrap IntKind.i64 (dr (nx x) 8 + 1))) then
     (Q (.agg ⟨[(.int IntKind.i64 2), (.int IntKind.i64 0), (.int IntKind.i64 0), (.string (ByteArray.extract { data := #[97, 98, 99, 100, 101, 102, 103, 104] } (Int.toNat (dr (nx x) 8)) (Int.toNat (IntKind.wrap IntKind.i64 (dr (nx x) 8 + 1))))), (.string ({ data := #[] }))]⟩) [some (.cells [(.int IntKind.u64 (nx (nx x))), (.int IntKind.i64 s), (.int IntKind.i64 z), (.int IntKind.i64 r), (.int IntKind.i64 w), (.int IntKind.i64 k), (.int IntKind.i64 v), (.int IntKind.i64 p), (.bool cr)] 0 false)])
    else
     False)
   else
    (bif dr x 20 == 15 then
     (Q (.agg ⟨[(.int IntKind.i64 4), (.int IntKind.i64 0), (.int IntKind.i64 0), (.string ({ data := #[] })), (.string ({ data := #[] }))]⟩) [some (.cells [(.int IntKind.u64 (nx x)), (.int IntKind.i64 s), (.int IntKind.i64 z), (.int IntKind.i64 r), (.int IntKind.i64 w), (.int IntKind.i64 k), (.int IntKind.i64 v), (.int IntKind.i64 p), (.bool cr)] 0 false)])
    else
     (bif dr x 20 == 17 then
      (bif cr then
       (Q (.agg ⟨[(.int IntKind.i64 8), (.int IntKind.i64 0), (.int IntKind.i64 0), (.string ({ data := #[] })), (.string ({ data := #[] }))]⟩) [some (.cells [(.int IntKind.u64 (nx x)), (.int IntKind.i64 s), (.int IntKind.i64 z), (.int IntKind.i64 r), (.int IntKind.i64 w), (.int IntKind.i64 k), (.int IntKind.i64 v), (.int IntKind.i64 p), (.bool cr)] 0 false)])
      else
       (bif dr x 20 == 18 then
        ((0 : Int) < 2 ∧ u32In (nx x)) ∧
        (Q (.agg ⟨[(.int IntKind.i64 6), (.int IntKind.i64 (IntKind.wrap IntKind.i64 (1 + dr (nx x) 2))), (.int IntKind.i64 0), (.string ({ data := #[] })), (.string ({ data := #[] }))]⟩) [some (.cells [(.int IntKind.u64 (nx (nx x))), (.int IntKind.i64 s), (.int IntKind.i64 z), (.int IntKind.i64 r), (.int IntKind.i64 w), (.int IntKind.i64 k), (.int IntKind.i64 v), (.int IntKind.i64 p), (.bool cr)] 0 false)])
       else
        (bif dr x 20 == 19 then
         (bif cr then
          (0 ≤ z ∧ z ≤ 10000 ∧ u32In (nx x)) ∧
          (Q (.agg ⟨[(.int IntKind.i64 (Prod.fst (Prod.fst (crS z (nx x))))), (.int IntKind.i64 (Prod.fst (Prod.snd (Prod.fst (crS z (nx x)))))), (.int IntKind.i64 (Prod.fst (Prod.snd (Prod.snd (Prod.fst (crS z (nx x))))))), (.string (Prod.fst (Prod.snd (Prod.snd (Prod.snd (Prod.fst (crS z (nx x)))))))), (.string (Prod.snd (Prod.snd (Prod.snd (Prod.snd (Prod.fst (crS z (nx x))))))))]⟩) [some (.cells [(.int IntKind.u64 (Prod.snd (crS z (nx x)))), (.int IntKind.i64 s), (.int IntKind.i64 z), (.int IntKind.i64 r), (.int IntKind.i64 w), (.int IntKind.i64 k), (.int IntKind.i64 v), (.int IntKind.i64 p), (.bool cr)] 0 false)])
         else
          (Q (.agg ⟨[(.int IntKind.i64 5), (.int IntKind.i64 0), (.int IntKind.i64 0), (.string ({ data := #[] })), (.string ({ data := #[] }))]⟩) [some (.cells [(.int IntKind.u64 (nx x)), (.int IntKind.i64 s), (.int IntKind.i64 z), (.int IntKind.i64 r), (.int IntKind.i64 w), (.int IntKind.i64 k), (.int IntKind.i64 v), (.int IntKind.i64 p), (.bool cr)] 0 false)]))
        else
         (Q (.agg ⟨[(.int IntKind.i64 5), (.int IntKind.i64 0), (.int IntKind.i64 0), (.string ({ data := #[] })), (.string ({ data := #[] }))]⟩) [some (.cells [(.int IntKind.u64 (nx x)), (.int IntKind.i64 s), (.int IntKind.i64 z), (.int IntKind.i64 r), (.int IntKind.i64 w), (.int IntKind.i64 k), (.int IntKind.i64 v), (.int IntKind.i64 p), (.bool cr)] 0 false)]))))
     else
      (bif dr x 20 == 18 then
       ((0 : Int) < 2 ∧ u32In (nx x)) ∧
       (Q (.agg ⟨[(.int IntKind.i64 6), (.int IntKind.i64 (IntKind.wrap IntKind.i64 (1 + dr (nx x) 2))), (.int IntKind.i64 0), (.string ({ data := #[] })), (.string ({ data := #[] }))]⟩) [some (.cells [(.int IntKind.u64 (nx (nx x))), (.int IntKind.i64 s), (.int IntKind.i64 z), (.int IntKind.i64 r), (.int IntKind.i64 w), (.int IntKind.i64 k), (.int IntKind.i64 v), (.int IntKind.i64 p), (.bool cr)] 0 false)])
      else
       (bif dr x 20 == 19 then
        (bif cr then
         (0 ≤ z ∧ z ≤ 10000 ∧ u32In (nx x)) ∧
         (Q (.agg ⟨[(.int IntKind.i64 (Prod.fst (Prod.fst (crS z (nx x))))), (.int IntKind.i64 (Prod.fst (Prod.snd (Prod.fst (crS z (nx x)))))), (.int IntKind.i64 (Prod.fst (Prod.snd (Prod.snd (Prod.fst (crS z (nx x))))))), (.string (Prod.fst (Prod.snd (Prod.snd (Prod.snd (Prod.fst (crS z (nx x)))))))), (.string (Prod.snd (Prod.snd (Prod.snd (Prod.snd (Prod.fst (crS z (nx x))))))))]⟩) [some (.cells [(.int IntKind.u64 (Prod.snd (crS z (nx x)))), (.int IntKind.i64 s), (.int IntKind.i64 z), (.int IntKind.i64 r), (.int IntKind.i64 w), (.int IntKind.i64 k), (.int IntKind.i64 v), (.int IntKind.i64 p), (.bool cr)] 0 false)])
        else
         (Q (.agg ⟨[(.int IntKind.i64 5), (.int IntKind.i64 0), (.int IntKind.i64 0), (.string ({ data := #[] })), (.string ({ data := #[] }))]⟩) [some (.cells [(.int IntKind.u64 (nx x)), (.int IntKind.i64 s), (.int IntKind.i64 z), (.int IntKind.i64 r), (.int IntKind.i64 w), (.int IntKind.i64 k), (.int IntKind.i64 v), (.int IntKind.i64 p), (.bool cr)] 0 false)]))
       else
        (Q (.agg ⟨[(.int IntKind.i64 5), (.int IntKind.i64 0), (.int IntKind.i64 0), (.string ({ data := #[] })), (.string ({ data := #[] }))]⟩) [some (.cells [(.int IntKind.u64 (nx x)), (.int IntKind.i64 s), (.int IntKind.i64 z), (.int IntKind.i64 r), (.int IntKind.i64 w), (.int IntKind.i64 k), (.int IntKind.i64 v), (.int IntKind.i64 p), (.bool cr)] 0 false)]))))))))) := by kernel_rfl
theorem vc_rp1 (x s z r w k v p : Int) (cr : Bool) (key acc : ByteArray) (n l i : Int) (Q : Value → List (Option IObj) → Prop) (R : Cfg → Prop) : VCs XE pfE 28 [20] rpS Q R 3000 (rpT x s z r w k v p cr key acc n l i) = (
 (bif decide (i < n) then
  (bif Nat.ble (ByteArray.size acc + ByteArray.size { data := { toList := List.map (fun n_1 => UInt8.ofNat (Int.toNat n_1)) [IntKind.wrap IntKind.u8 (IntKind.wrap IntKind.i64 (65 + l))] } }) 9223372036854775807 then
   (R (rpT x s z r w k v p cr key (acc ++ { data := { toList := List.map (fun n_1 => UInt8.ofNat (Int.toNat n_1)) [IntKind.wrap IntKind.u8 (IntKind.wrap IntKind.i64 (65 + l))] } }) n l (IntKind.wrap IntKind.i64 (i + 1))))
  else
   False)
 else
  (Q (.agg ⟨[(.int IntKind.i64 1), (.int IntKind.i64 0), (.int IntKind.i64 0), (.string key), (.string acc)]⟩) [some (.cells [(.int IntKind.u64 x), (.int IntKind.i64 s), (.int IntKind.i64 z), (.int IntKind.i64 r), (.int IntKind.i64 w), (.int IntKind.i64 k), (.int IntKind.i64 v), (.int IntKind.i64 p), (.bool cr)] 0 false)]))) := by kernel_rfl
end Go.Ideal
