/-
  Part of the proof: the machine that runs a program by fixed orders, and that each of its runs is a run of the model; or a run of it in parts. No conditions.
-/
import Derived.Test.YtnonaponcjffjaaGreatDoorC45h
import Derived.Test.YtnonaponcjffjaaGreatDoorIdArg2
set_option maxRecDepth 1000000
namespace Go.Ideal
open Go.Proofs
theorem vc_room0 (g : G7) (s z r w k v p : Int) (Q : Value → List (Option IObj) → Prop) : VCp (XC g) (pfC g 0) 14 [] Q 3000 (st 14 9 [cfgV s z r w k v p] (heap0 tabLaid 20)) = (
 ((g s z r w k v p) = (0)) ∧
 (Q (.tuple ⟨[(.int IntKind.i64 (IntKind.wrap IntKind.i64 (z - 16))), (.int IntKind.i64 0)]⟩) [])) := by kernel_rfl
theorem vc_room2 (g : G7) (s z r w k v p : Int) (Q : Value → List (Option IObj) → Prop) : VCp (XC g) (pfC g 2) 14 [] Q 3000 (st 14 9 [cfgV s z r w k v p] (heap0 tabLaid 20)) = (
 ((g s z r w k v p) = (2)) ∧
 (Q (.tuple ⟨[(.int IntKind.i64 0), (.int IntKind.i64 2)]⟩) [])) := by kernel_rfl
theorem vc_lim0 (g : G7) (s z r w k v p : Int) (Q : Value → List (Option IObj) → Prop) : VCp (XC g) (pfC g 0) 15 [] Q 3000 (st 15 9 [cfgV s z r w k v p] (heap0 tabLaid 20)) = (
 ((g s z r w k v p) = (0)) ∧
 (((.int IntKind.i64 (IntKind.wrap IntKind.i64 (IntKind.wrap IntKind.i64 (s - r) - 2))) : Value) = (.int IntKind.i64 (IntKind.wrap IntKind.i64 (IntKind.wrap IntKind.i64 (s - r) - 2)))) ∧
 (((.int IntKind.i64 (IntKind.wrap IntKind.i64 (s - r))) : Value) = (.int IntKind.i64 (IntKind.wrap IntKind.i64 (s - r)))) ∧
 (((.int IntKind.i64 r) : Value) = (.int IntKind.i64 r)) ∧
 (((.pointer (some ⟨20, 2, none⟩)) : Value) = (.pointer (some ⟨20, 2, none⟩))) ∧
 (((.int IntKind.i64 s) : Value) = (.int IntKind.i64 s)) ∧
 (((.pointer (some ⟨20, 0, none⟩)) : Value) = (.pointer (some ⟨20, 0, none⟩))) ∧
 (Q (.tuple ⟨[(.int IntKind.i64 (IntKind.wrap IntKind.i64 (Int.tdiv (IntKind.wrap IntKind.i64 (IntKind.wrap IntKind.i64 (IntKind.wrap IntKind.i64 (s - r) - 2) * IntKind.wrap IntKind.i64 (z - 16))) 2))), (.int IntKind.i64 0)]⟩) [])) := by kernel_rfl
theorem vc_lim2 (g : G7) (s z r w k v p : Int) (Q : Value → List (Option IObj) → Prop) : VCp (XC g) (pfC g 2) 15 [] Q 3000 (st 15 9 [cfgV s z r w k v p] (heap0 tabLaid 20)) = (
 ((g s z r w k v p) = (2)) ∧
 (Q (.tuple ⟨[(.int IntKind.i64 0), (.int IntKind.i64 2)]⟩) [])) := by kernel_rfl
abbrev kU16 : EK := [.int .u16]
noncomputable def XSg (ms mz mr mw mk mv mp : G7) (a b c : G7) (e f : Int → G7) : Ctx := ctxI Tryz.prog tabLaid [(12, knownF wrkK), (13, fMade ms mz mr mw mk mv mp), (14, f7 fun s z r w k v p => t2 (a s z r w k v p) (b s z r w k v p)),
  (15, f7 fun s z r w k v p => t2 (c s z r w k v p) (b s z r w k v p)), (10, f8 fun s z r w k v p x => t2 (e x s z r w k v p) (f x s z r w k v p))]
noncomputable def segT (l : List (EK.C kU16)) (a s z r w k v p rm lm sm us sg : Int) (sv : Value) (n i : Int) : Cfg :=
  ⟨⟨4, mkT [(2, .int .u32 a), (7, pt 21 0), (8, .int .i64 rm), (10, .int .i64 lm), (12, .int .i64 sm), (13, .int .i64 us), (14, .int .i64 sg), (46, sv), (47, .int .i64 n), (48, .int .i64 i)], 126, [.code (pcOf Tryz.prog 4 [1, 1, 1, 1, 1, 1, 0, 1, 0, 0]), .inLoop (pcOf Tryz.prog 4 [1, 1, 1, 1, 1, 1, 0, 1, 0, 0]), .inBlock 0, .code (pcOf Tryz.prog 4 [1, 1, 1, 1, 1, 1, 1])], [], false, .normal, none⟩, [],
    (putRows ⟨.leaf, 20⟩ true [⟨kU16, l⟩]).alloc (.cells [.int .i64 s, .int .i64 z, .int .i64 r, .int .i64 w, .int .i64 k, .int .i64 v, .int .i64 p] 0 false)⟩
def segS : Stop := ⟨4, 0, 3, 21, [20], [2, 7, 8, 10, 12, 13, 14, 46, 47, 48]⟩
theorem vc_sg0 (ms mz mr mw mk mv mp : G7) (a b c : G7) (e f : Int → G7) (l : List (EK.C kU16)) (n0 n1 n2 n3 n4 n5 n6 x : Int) (Q : Value → List (Option IObj) → Prop) (R : Cfg → Prop) : VCs (XSg ms mz mr mw mk mv mp a b c e f) (pfM ms mz mr mw mk mv mp) 4 [] segS Q R 3000 (st 4 126 [nV n0 n1 n2 n3 n4 n5 n6, .slice (some ⟨20, 0, some 0⟩) l.length capU, .int .u32 x] (putRows ⟨.leaf, 20⟩ true [⟨kU16, l⟩])) = (
 (u32In n0 ∧ u32In n1 ∧ u32In n2 ∧ u32In n3 ∧ u32In n4 ∧ u32In n5 ∧ u32In n6) ∧
 (bif b (ms n0 n1 n2 n3 n4 n5 n6) (mz n0 n1 n2 n3 n4 n5 n6) (mr n0 n1 n2 n3 n4 n5 n6) (mw n0 n1 n2 n3 n4 n5 n6) (mk n0 n1 n2 n3 n4 n5 n6) (mv n0 n1 n2 n3 n4 n5 n6) (mp n0 n1 n2 n3 n4 n5 n6) != 0 then
  (Q (.bool false) [])
 else
  (bif b (ms n0 n1 n2 n3 n4 n5 n6) (mz n0 n1 n2 n3 n4 n5 n6) (mr n0 n1 n2 n3 n4 n5 n6) (mw n0 n1 n2 n3 n4 n5 n6) (mk n0 n1 n2 n3 n4 n5 n6) (mv n0 n1 n2 n3 n4 n5 n6) (mp n0 n1 n2 n3 n4 n5 n6) != 0 then
   (Q (.bool false) [])
  else
   (bif decide (0 ≤ if 200 < Int.ofNat (List.length l) then 200 else Int.ofNat (List.length l)) && Nat.ble (Int.toNat (if 200 < Int.ofNat (List.length l) then 200 else Int.ofNat (List.length l))) (List.length l) && decide (0 ≤ 0) && Nat.ble 0 (Int.toNat (if 200 < Int.ofNat (List.length l) then 200 else Int.ofNat (List.length l))) then
    (R (segT l x (ms n0 n1 n2 n3 n4 n5 n6) (mz n0 n1 n2 n3 n4 n5 n6) (mr n0 n1 n2 n3 n4 n5 n6) (mw n0 n1 n2 n3 n4 n5 n6) (mk n0 n1 n2 n3 n4 n5 n6) (mv n0 n1 n2 n3 n4 n5 n6) (mp n0 n1 n2 n3 n4 n5 n6) (a (ms n0 n1 n2 n3 n4 n5 n6) (mz n0 n1 n2 n3 n4 n5 n6) (mr n0 n1 n2 n3 n4 n5 n6) (mw n0 n1 n2 n3 n4 n5 n6) (mk n0 n1 n2 n3 n4 n5 n6) (mv n0 n1 n2 n3 n4 n5 n6) (mp n0 n1 n2 n3 n4 n5 n6)) (c (ms n0 n1 n2 n3 n4 n5 n6) (mz n0 n1 n2 n3 n4 n5 n6) (mr n0 n1 n2 n3 n4 n5 n6) (mw n0 n1 n2 n3 n4 n5 n6) (mk n0 n1 n2 n3 n4 n5 n6) (mv n0 n1 n2 n3 n4 n5 n6) (mp n0 n1 n2 n3 n4 n5 n6)) 0 (a (ms n0 n1 n2 n3 n4 n5 n6) (mz n0 n1 n2 n3 n4 n5 n6) (mr n0 n1 n2 n3 n4 n5 n6) (mw n0 n1 n2 n3 n4 n5 n6) (mk n0 n1 n2 n3 n4 n5 n6) (mv n0 n1 n2 n3 n4 n5 n6) (mp n0 n1 n2 n3 n4 n5 n6)) 0 (.slice (some ⟨20, 0, (some 0)⟩) (Int.toNat (if 200 < Int.ofNat (List.length l) then 200 else Int.ofNat (List.length l)) - 0) 18446744073709551616) (Int.ofNat (Int.toNat (if 200 < Int.ofNat (List.length l) then 200 else Int.ofNat (List.length l)) - 0)) 0))
   else
    False)))) := by kernel_rfl
theorem vc_sg1 (ms mz mr mw mk mv mp : G7) (a b c : G7) (e f : Int → G7) (l : List (EK.C kU16)) (x s z r w k v p rm lm sm us sg : Int) (m : Nat) (n i : Int) (Q : Value → List (Option IObj) → Prop) (R : Cfg → Prop) : VCs (XSg ms mz mr mw mk mv mp a b c e f) (pfM ms mz mr mw mk mv mp) 4 [] segS Q R 3000 (segT l x s z r w k v p rm lm sm us sg (.slice (some ⟨20, 0, some 0⟩) m capU) n i) = (
 (bif decide (i < n) then
  (bif decide (0 ≤ i) && Nat.blt (Int.toNat i) m then
   (bif Nat.blt (0 + Int.toNat i) (List.length l) then
    (bif decide (IntKind.wrap IntKind.i64 (v + 1) ≠ 0) then
     (bif decide (IntKind.wrap IntKind.i64 (sm + IntKind.wrap IntKind.i64 (17 + Int.tmod (IntKind.wrap IntKind.i64 (List.getD l (0 + Int.toNat i) (EK.dflt kU16))) (IntKind.wrap IntKind.i64 (v + 1)))) > lm) then
      (bif decide (IntKind.wrap IntKind.i64 (lm + 1) ≠ 0) then
       (bif f sm s z r w k v p == 0 then
        (bif f (Int.tmod (IntKind.wrap IntKind.i64 x) (IntKind.wrap IntKind.i64 (lm + 1))) s z r w k v p == 0 then
         (bif decide (sg ≤ e sm s z r w k v p) then
          (bif decide (e (Int.tmod (IntKind.wrap IntKind.i64 x) (IntKind.wrap IntKind.i64 (lm + 1))) s z r w k v p ≤ IntKind.wrap IntKind.i64 (IntKind.wrap IntKind.i64 (s - r) - 2)) then
           (bif e (Int.tmod (IntKind.wrap IntKind.i64 x) (IntKind.wrap IntKind.i64 (lm + 1))) s z r w k v p == 0 then
            (bif Int.tmod (IntKind.wrap IntKind.i64 x) (IntKind.wrap IntKind.i64 (lm + 1)) == 0 then
             (Q (.bool true) [])
            else
             (Q (.bool false) []))
           else
            (bif Int.tmod (IntKind.wrap IntKind.i64 x) (IntKind.wrap IntKind.i64 (lm + 1)) == 0 then
             (Q (.bool false) [])
            else
             (Q (.bool true) [])))
          else
           (Q (.bool false) []))
         else
          (Q (.bool false) []))
        else
         (Q (.bool false) []))
       else
        (Q (.bool false) []))
      else
       False)
     else
      (bif decide (IntKind.wrap IntKind.i64 (us + IntKind.wrap IntKind.i64 (17 + Int.tmod (IntKind.wrap IntKind.i64 (List.getD l (0 + Int.toNat i) (EK.dflt kU16))) (IntKind.wrap IntKind.i64 (v + 1)))) > rm) then
       (R (segT l x s z r w k v p rm lm (IntKind.wrap IntKind.i64 (sm + IntKind.wrap IntKind.i64 (17 + Int.tmod (IntKind.wrap IntKind.i64 (List.getD l (0 + Int.toNat i) (EK.dflt kU16))) (IntKind.wrap IntKind.i64 (v + 1))))) (IntKind.wrap IntKind.i64 (0 + IntKind.wrap IntKind.i64 (17 + Int.tmod (IntKind.wrap IntKind.i64 (List.getD l (0 + Int.toNat i) (EK.dflt kU16))) (IntKind.wrap IntKind.i64 (v + 1))))) (IntKind.wrap IntKind.i64 (sg + 1)) (.slice (some ⟨20, 0, (some 0)⟩) m 18446744073709551616) n (IntKind.wrap IntKind.i64 (i + 1))))
      else
       (R (segT l x s z r w k v p rm lm (IntKind.wrap IntKind.i64 (sm + IntKind.wrap IntKind.i64 (17 + Int.tmod (IntKind.wrap IntKind.i64 (List.getD l (0 + Int.toNat i) (EK.dflt kU16))) (IntKind.wrap IntKind.i64 (v + 1))))) (IntKind.wrap IntKind.i64 (us + IntKind.wrap IntKind.i64 (17 + Int.tmod (IntKind.wrap IntKind.i64 (List.getD l (0 + Int.toNat i) (EK.dflt kU16))) (IntKind.wrap IntKind.i64 (v + 1))))) sg (.slice (some ⟨20, 0, (some 0)⟩) m 18446744073709551616) n (IntKind.wrap IntKind.i64 (i + 1))))))
    else
     False)
   else
    False)
  else
   False)
 else
  (bif decide (IntKind.wrap IntKind.i64 (lm + 1) ≠ 0) then
   (bif f sm s z r w k v p == 0 then
    (bif f (Int.tmod (IntKind.wrap IntKind.i64 x) (IntKind.wrap IntKind.i64 (lm + 1))) s z r w k v p == 0 then
     (bif decide (sg ≤ e sm s z r w k v p) then
      (bif decide (e (Int.tmod (IntKind.wrap IntKind.i64 x) (IntKind.wrap IntKind.i64 (lm + 1))) s z r w k v p ≤ IntKind.wrap IntKind.i64 (IntKind.wrap IntKind.i64 (s - r) - 2)) then
       (bif e (Int.tmod (IntKind.wrap IntKind.i64 x) (IntKind.wrap IntKind.i64 (lm + 1))) s z r w k v p == 0 then
        (bif Int.tmod (IntKind.wrap IntKind.i64 x) (IntKind.wrap IntKind.i64 (lm + 1)) == 0 then
         (Q (.bool true) [])
        else
         (Q (.bool false) []))
       else
        (bif Int.tmod (IntKind.wrap IntKind.i64 x) (IntKind.wrap IntKind.i64 (lm + 1)) == 0 then
         (Q (.bool false) [])
        else
         (Q (.bool true) [])))
      else
       (Q (.bool false) []))
     else
      (Q (.bool false) []))
    else
     (Q (.bool false) []))
   else
    (Q (.bool false) []))
  else
   False))) := by kernel_rfl
theorem vc_sgn (ms mz mr mw mk mv mp : G7) (a b c : G7) (e f : Int → G7) (n0 n1 n2 n3 n4 n5 n6 x : Int) (Q : Value → List (Option IObj) → Prop) : VCp (XSg ms mz mr mw mk mv mp a b c e f) (pfM ms mz mr mw mk mv mp) 4 [] Q 3000 (st 4 126 [nV n0 n1 n2 n3 n4 n5 n6, .slice none 0 0, .int .u32 x] ⟨.leaf, 20⟩) = (
 (u32In n0 ∧ u32In n1 ∧ u32In n2 ∧ u32In n3 ∧ u32In n4 ∧ u32In n5 ∧ u32In n6) ∧
 (bif b (ms n0 n1 n2 n3 n4 n5 n6) (mz n0 n1 n2 n3 n4 n5 n6) (mr n0 n1 n2 n3 n4 n5 n6) (mw n0 n1 n2 n3 n4 n5 n6) (mk n0 n1 n2 n3 n4 n5 n6) (mv n0 n1 n2 n3 n4 n5 n6) (mp n0 n1 n2 n3 n4 n5 n6) != 0 then
  (Q (.bool false) [])
 else
  (bif b (ms n0 n1 n2 n3 n4 n5 n6) (mz n0 n1 n2 n3 n4 n5 n6) (mr n0 n1 n2 n3 n4 n5 n6) (mw n0 n1 n2 n3 n4 n5 n6) (mk n0 n1 n2 n3 n4 n5 n6) (mv n0 n1 n2 n3 n4 n5 n6) (mp n0 n1 n2 n3 n4 n5 n6) != 0 then
   (Q (.bool false) [])
  else
   (bif decide (IntKind.wrap IntKind.i64 (c (ms n0 n1 n2 n3 n4 n5 n6) (mz n0 n1 n2 n3 n4 n5 n6) (mr n0 n1 n2 n3 n4 n5 n6) (mw n0 n1 n2 n3 n4 n5 n6) (mk n0 n1 n2 n3 n4 n5 n6) (mv n0 n1 n2 n3 n4 n5 n6) (mp n0 n1 n2 n3 n4 n5 n6) + 1) ≠ 0) then
    (bif f 0 (ms n0 n1 n2 n3 n4 n5 n6) (mz n0 n1 n2 n3 n4 n5 n6) (mr n0 n1 n2 n3 n4 n5 n6) (mw n0 n1 n2 n3 n4 n5 n6) (mk n0 n1 n2 n3 n4 n5 n6) (mv n0 n1 n2 n3 n4 n5 n6) (mp n0 n1 n2 n3 n4 n5 n6) == 0 then
     (bif f (Int.tmod (IntKind.wrap IntKind.i64 x) (IntKind.wrap IntKind.i64 (c (ms n0 n1 n2 n3 n4 n5 n6) (mz n0 n1 n2 n3 n4 n5 n6) (mr n0 n1 n2 n3 n4 n5 n6) (mw n0 n1 n2 n3 n4 n5 n6) (mk n0 n1 n2 n3 n4 n5 n6) (mv n0 n1 n2 n3 n4 n5 n6) (mp n0 n1 n2 n3 n4 n5 n6) + 1))) (ms n0 n1 n2 n3 n4 n5 n6) (mz n0 n1 n2 n3 n4 n5 n6) (mr n0 n1 n2 n3 n4 n5 n6) (mw n0 n1 n2 n3 n4 n5 n6) (mk n0 n1 n2 n3 n4 n5 n6) (mv n0 n1 n2 n3 n4 n5 n6) (mp n0 n1 n2 n3 n4 n5 n6) == 0 then
      (bif decide (0 ≤ e 0 (ms n0 n1 n2 n3 n4 n5 n6) (mz n0 n1 n2 n3 n4 n5 n6) (mr n0 n1 n2 n3 n4 n5 n6) (mw n0 n1 n2 n3 n4 n5 n6) (mk n0 n1 n2 n3 n4 n5 n6) (mv n0 n1 n2 n3 n4 n5 n6) (mp n0 n1 n2 n3 n4 n5 n6)) then
       (bif decide (e (Int.tmod (IntKind.wrap IntKind.i64 x) (IntKind.wrap IntKind.i64 (c (ms n0 n1 n2 n3 n4 n5 n6) (mz n0 n1 n2 n3 n4 n5 n6) (mr n0 n1 n2 n3 n4 n5 n6) (mw n0 n1 n2 n3 n4 n5 n6) (mk n0 n1 n2 n3 n4 n5 n6) (mv n0 n1 n2 n3 n4 n5 n6) (mp n0 n1 n2 n3 n4 n5 n6) + 1))) (ms n0 n1 n2 n3 n4 n5 n6) (mz n0 n1 n2 n3 n4 n5 n6) (mr n0 n1 n2 n3 n4 n5 n6) (mw n0 n1 n2 n3 n4 n5 n6) (mk n0 n1 n2 n3 n4 n5 n6) (mv n0 n1 n2 n3 n4 n5 n6) (mp n0 n1 n2 n3 n4 n5 n6) ≤ IntKind.wrap IntKind.i64 (IntKind.wrap IntKind.i64 (ms n0 n1 n2 n3 n4 n5 n6 - mr n0 n1 n2 n3 n4 n5 n6) - 2)) then
        (bif e (Int.tmod (IntKind.wrap IntKind.i64 x) (IntKind.wrap IntKind.i64 (c (ms n0 n1 n2 n3 n4 n5 n6) (mz n0 n1 n2 n3 n4 n5 n6) (mr n0 n1 n2 n3 n4 n5 n6) (mw n0 n1 n2 n3 n4 n5 n6) (mk n0 n1 n2 n3 n4 n5 n6) (mv n0 n1 n2 n3 n4 n5 n6) (mp n0 n1 n2 n3 n4 n5 n6) + 1))) (ms n0 n1 n2 n3 n4 n5 n6) (mz n0 n1 n2 n3 n4 n5 n6) (mr n0 n1 n2 n3 n4 n5 n6) (mw n0 n1 n2 n3 n4 n5 n6) (mk n0 n1 n2 n3 n4 n5 n6) (mv n0 n1 n2 n3 n4 n5 n6) (mp n0 n1 n2 n3 n4 n5 n6) == 0 then
         (bif Int.tmod (IntKind.wrap IntKind.i64 x) (IntKind.wrap IntKind.i64 (c (ms n0 n1 n2 n3 n4 n5 n6) (mz n0 n1 n2 n3 n4 n5 n6) (mr n0 n1 n2 n3 n4 n5 n6) (mw n0 n1 n2 n3 n4 n5 n6) (mk n0 n1 n2 n3 n4 n5 n6) (mv n0 n1 n2 n3 n4 n5 n6) (mp n0 n1 n2 n3 n4 n5 n6) + 1)) == 0 then
          (Q (.bool true) [])
         else
          (Q (.bool false) []))
        else
         (bif Int.tmod (IntKind.wrap IntKind.i64 x) (IntKind.wrap IntKind.i64 (c (ms n0 n1 n2 n3 n4 n5 n6) (mz n0 n1 n2 n3 n4 n5 n6) (mr n0 n1 n2 n3 n4 n5 n6) (mw n0 n1 n2 n3 n4 n5 n6) (mk n0 n1 n2 n3 n4 n5 n6) (mv n0 n1 n2 n3 n4 n5 n6) (mp n0 n1 n2 n3 n4 n5 n6) + 1)) == 0 then
          (Q (.bool false) [])
         else
          (Q (.bool true) [])))
       else
        (Q (.bool false) []))
      else
       (Q (.bool false) []))
     else
      (Q (.bool false) []))
    else
     (Q (.bool false) []))
   else
    False)))) := by kernel_rfl
end Go.Ideal
