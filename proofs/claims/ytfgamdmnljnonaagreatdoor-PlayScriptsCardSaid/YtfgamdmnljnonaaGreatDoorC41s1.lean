/-
  Part of the proof: the machine that runs a program by fixed orders, and that each of its runs is a run of the model; or a run of it in parts. No conditions.
-/
import Derived.Test.YtfgamdmnljnonaaGreatDoorC41s0
import Derived.Test.YtfgamdmnljnonaaGreatDoorIdThin
set_option maxRecDepth 1000000
namespace Go.Ideal
open Go.Proofs
noncomputable abbrev nmFs : List (FuncId × IFun) := [(f_strconv_Atoi, atoiI), (f_strconv_Itoa, itoaI)]
noncomputable def XNm : Ctx := ctxI Tryz.prog tabLaid nmFs
noncomputable def pfNm : Pf := fun g => bif Nat.beq g f_strconv_Atoi then some (pAtoi numOf) else (fun g => bif Nat.beq g f_strconv_Itoa then some pItoa else noPf g) g
theorem vc_num (s : ByteArray) (m : Int) (Q : Value → List (Option IObj) → Prop) : VCp XNm pfNm f_fault_number [] Q 1000 (st f_fault_number 27 [.string s, .int .i64 m] hp0) = (
 (Lib.atoiAll (Array.toList (ByteArray.data s)) = Lib.NumEnd.ok (numOf s) ∧ ByteArray.size s ≤ 1000) ∧
 (bif decide (numOf s ≥ 0) then
  (bif decide (numOf s ≤ m) then
   (0 ≤ numOf s ∧ numOf s ≤ 9223372036854775807) ∧
   (bif ByteArray.toList (decB (numOf s)) == ByteArray.toList s then
    (Q (.int IntKind.i64 (numOf s)) [])
   else
    False)
  else
   False)
 else
  False)) := by kernel_rfl
def numIn (s : ByteArray) (m : Int) : Prop := ∃ k : Int, 0 ≤ k ∧ k ≤ m ∧ m ≤ 1000000 ∧ s = decB k
noncomputable def qNum : PlainF where
  ok := fun args => match args with
    | [.string s, .int .i64 m] => numIn s m
    | _ => False
  v := fun args => match args with
    | [.string s, .int .i64 _] => .int .i64 (numOf s)
    | _ => junk
def hasB (s : ByteArray) (c : UInt8) : Bool := decide (0 ≤ Go.Lib.indexByte s.data.toList c)
def posB1 (s : ByteArray) (c : UInt8) : Nat := (Go.Lib.indexByte s.data.toList c).toNat
noncomputable def pIndexB : PFun := fun args H K => match args with
  | [.string s, .string sep] => match oneB sep with
    | some c => bif hasB s c then K (.int .i64 (.ofNat (posB1 s c))) H else K (.int .i64 (.negSucc 0)) H
    | none => False
  | _ => False
def wrd (s : ByteArray) (i : Nat) : ByteArray := (Go.Lib.splitB (bs [32]) 0 2 s).getD i ByteArray.empty
def spl (s : ByteArray) : List ByteArray := [wrd s 0, wrd s 1, wrd s 2]
noncomputable def pNum : PFun := fun args H K => match args with
  | [.string s, .int .i64 m] => numIn s m ∧ K (.int .i64 (numOf s)) H
  | _ => False
noncomputable abbrev rdFs : List (FuncId × IFun) := [(f_strings_Split, splitI), (f_fault_number, qNum.F), (f_strings_Index, indexI)]
noncomputable def XRd : Ctx := ctxI Tryz.prog tabLaid rdFs
noncomputable def pfRd : Pf := fun g => bif Nat.beq g f_strings_Split then some (pSplit spl) else (fun g => bif Nat.beq g f_fault_number then some pNum else (fun g => bif Nat.beq g f_strings_Index then some pIndexB else noPf g) g) g
noncomputable def ptr (b : Nat) : Value := .pointer (some ⟨b, 0, none⟩)
noncomputable def rdG (s : ByteArray) (a : Int) (d : Bool) (keep : Value) (H : IHeap → IHeap) : Cfg :=
  ⟨⟨f_strings_splitSeq_1, mkT [(0, .func (.yield 24) ⟨[]⟩ ⟨[]⟩), (1, ptr 20), (2, ptr 21), (3, ptr 22)], 52, [.code (pcOf Tryz.prog f_strings_splitSeq_1 [1, 0, 0, 0]), .inLoop (pcOf Tryz.prog f_strings_splitSeq_1 [1, 0, 0, 0]), .inBlock 2, .code (pcOf Tryz.prog f_strings_splitSeq_1 [1, 1])], [], false, .normal, none⟩,
    [⟨f_fault_read, mkT [(2, ptr 26), (4, ptr 25)], 50, [.inRangeFunc 24, .inBlock 0, .code (pcOf Tryz.prog f_fault_read [1, 1, 1, 1, 1])], [⟨.collected 23, ⟨[]⟩⟩], false, .normal, none⟩],
    H (((((((hp0.alloc (.cells [.string ⟨#[44]⟩] 0 false)).alloc (.cells [.string s] 0 false)).alloc (.cells [.int .i64 0] 0 false)).alloc (.deferred (some []))).alloc
      (.loop ⟨.ready, none, f_fault_read, mkT [(2, ptr 26), (4, ptr 25)], 50, #[37], pcOf Tryz.prog f_fault_read [1, 1, 1, 1, 0, 1, 0, 0], pcOf Tryz.prog f_fault_read [1, 1, 1, 1, 0, 1, 0, 1], 23⟩)).alloc (.cells [.int .i64 a, .bool d, keep] 0 false)).alloc (.cells [.int .i64 0, .bool false, .slice none 0 0] 0 false))⟩
noncomputable def rd0 (s : ByteArray) (a : Int) (d : Bool) : Cfg := rdG s a d (.slice none 0 0) id
noncomputable def rd1 (s : ByteArray) (a : Int) (d : Bool) (k0 : Int) : Cfg := rdG s a d (.slice (some ⟨27, 0, none⟩) 1 18446744073709551617) fun H => H.alloc (.cells [.int .i64 k0] 1 false)
noncomputable def rd2 (s : ByteArray) (a : Int) (d : Bool) (k0 k1 : Int) : Cfg := rdG s a d (.slice (some ⟨27, 0, none⟩) 2 18446744073709551618) fun H => H.alloc (.cells [.int .i64 k0, .int .i64 k1] 1 false)
noncomputable def rd3 (s : ByteArray) (a : Int) (d : Bool) (k0 k1 k2 : Int) : Cfg := rdG s a d (.slice (some ⟨27, 0, none⟩) 3 18446744073709551619) fun H => H.alloc (.cells [.int .i64 k0, .int .i64 k1, .int .i64 k2] 1 false)
def rdS : Stop := ⟨f_strings_splitSeq_1, 1, 3, 20, [], [0, 1, 2, 3]⟩
def rdK : List (FuncId × List Nat) := [(f_fault_read, [2, 4])]
theorem vc_rdS (s : ByteArray) (Q : Value → List (Option IObj) → Prop) (R : Cfg → Prop) : VCt XRd pfRd f_fault_read [] rdS rdK Q R 1000 (st f_fault_read 50 [.string s] hp0) = (
 (ByteArray.size s < 4294967281 ∧ Lib.splitB { data := #[32] } 0 (Lib.countB s { data := #[32] }) s = spl s) ∧
 (bif ByteArray.toList (List.getD (spl s) 1 (EK.dflt [SK.str])) == ByteArray.toList { data := #[121] } then
  (bif ByteArray.toList (List.getD (spl s) 1 (EK.dflt [SK.str])) == ByteArray.toList { data := #[121] } then
   (numIn (List.getD (spl s) 0 (EK.dflt [SK.str])) 1000000) ∧
   (((.bool (ByteArray.toList (List.getD (spl s) 1 (EK.dflt [SK.str])) == ByteArray.toList { data := #[121] })) : Value) = (.bool true)) ∧
   (((.string (List.getD (spl s) 1 (EK.dflt [SK.str]))) : Value) = (.string (List.getD (spl s) 1 (EK.dflt [SK.str])))) ∧
   (((.pointer (some ⟨21, 0, (some 1)⟩)) : Value) = (.pointer (some ⟨21, 0, (some 1)⟩))) ∧
   (((.slice (some ⟨21, 0, (some 0)⟩) 3 18446744073709551616) : Value) = (.slice (some ⟨21, 0, (some 0)⟩) 3 18446744073709551616)) ∧
   (R (rd0 (List.getD (spl s) 2 (EK.dflt [SK.str])) (numOf (List.getD (spl s) 0 (EK.dflt [SK.str]))) true))
  else
   (numIn (List.getD (spl s) 0 (EK.dflt [SK.str])) 1000000) ∧
   (((.bool (ByteArray.toList (List.getD (spl s) 1 (EK.dflt [SK.str])) == ByteArray.toList { data := #[121] })) : Value) = (.bool false)) ∧
   (((.string (List.getD (spl s) 1 (EK.dflt [SK.str]))) : Value) = (.string (List.getD (spl s) 1 (EK.dflt [SK.str])))) ∧
   (((.pointer (some ⟨21, 0, (some 1)⟩)) : Value) = (.pointer (some ⟨21, 0, (some 1)⟩))) ∧
   (((.slice (some ⟨21, 0, (some 0)⟩) 3 18446744073709551616) : Value) = (.slice (some ⟨21, 0, (some 0)⟩) 3 18446744073709551616)) ∧
   (R (rd0 (List.getD (spl s) 2 (EK.dflt [SK.str])) (numOf (List.getD (spl s) 0 (EK.dflt [SK.str]))) false)))
 else
  (bif ByteArray.toList (List.getD (spl s) 1 (EK.dflt [SK.str])) == ByteArray.toList { data := #[110] } then
   (bif ByteArray.toList (List.getD (spl s) 1 (EK.dflt [SK.str])) == ByteArray.toList { data := #[121] } then
    (numIn (List.getD (spl s) 0 (EK.dflt [SK.str])) 1000000) ∧
    (((.bool (ByteArray.toList (List.getD (spl s) 1 (EK.dflt [SK.str])) == ByteArray.toList { data := #[121] })) : Value) = (.bool true)) ∧
    (((.string (List.getD (spl s) 1 (EK.dflt [SK.str]))) : Value) = (.string (List.getD (spl s) 1 (EK.dflt [SK.str])))) ∧
    (((.pointer (some ⟨21, 0, (some 1)⟩)) : Value) = (.pointer (some ⟨21, 0, (some 1)⟩))) ∧
    (((.slice (some ⟨21, 0, (some 0)⟩) 3 18446744073709551616) : Value) = (.slice (some ⟨21, 0, (some 0)⟩) 3 18446744073709551616)) ∧
    (R (rd0 (List.getD (spl s) 2 (EK.dflt [SK.str])) (numOf (List.getD (spl s) 0 (EK.dflt [SK.str]))) true))
   else
    (numIn (List.getD (spl s) 0 (EK.dflt [SK.str])) 1000000) ∧
    (((.bool (ByteArray.toList (List.getD (spl s) 1 (EK.dflt [SK.str])) == ByteArray.toList { data := #[121] })) : Value) = (.bool false)) ∧
    (((.string (List.getD (spl s) 1 (EK.dflt [SK.str]))) : Value) = (.string (List.getD (spl s) 1 (EK.dflt [SK.str])))) ∧
    (((.pointer (some ⟨21, 0, (some 1)⟩)) : Value) = (.pointer (some ⟨21, 0, (some 1)⟩))) ∧
    (((.slice (some ⟨21, 0, (some 0)⟩) 3 18446744073709551616) : Value) = (.slice (some ⟨21, 0, (some 0)⟩) 3 18446744073709551616)) ∧
    (R (rd0 (List.getD (spl s) 2 (EK.dflt [SK.str])) (numOf (List.getD (spl s) 0 (EK.dflt [SK.str]))) false)))
  else
   False))) := by kernel_rfl
theorem vc_rd0 (s : ByteArray) (a : Int) (d : Bool) (Q : Value → List (Option IObj) → Prop) (R : Cfg → Prop) : VCt XRd pfRd f_fault_read [] rdS rdK Q R 1000 (rd0 s a d) = (
 (bif hasB s 44 then
  (bif decide (0 ≤ IntKind.wrap IntKind.i64 (Int.ofNat (posB1 s 44) + 0)) && Nat.ble (Int.toNat (IntKind.wrap IntKind.i64 (Int.ofNat (posB1 s 44) + 0))) (ByteArray.size s) && decide (0 ≤ 0) && Nat.ble 0 (Int.toNat (IntKind.wrap IntKind.i64 (Int.ofNat (posB1 s 44) + 0))) then
   (numIn (ByteArray.extract s 0 (Int.toNat (IntKind.wrap IntKind.i64 (Int.ofNat (posB1 s 44) + 0)))) 8192) ∧
   (((.slice none 0 0) : Value) = (.slice none 0 0)) ∧
   (((.pointer (some ⟨25, 2, none⟩)) : Value) = (.pointer (some ⟨25, 2, none⟩))) ∧
   (bif decide (0 ≤ Int.ofNat (ByteArray.size s)) && Nat.ble (Int.toNat (Int.ofNat (ByteArray.size s))) (ByteArray.size s) && decide (0 ≤ IntKind.wrap IntKind.i64 (Int.ofNat (posB1 s 44) + 1)) && Nat.ble (Int.toNat (IntKind.wrap IntKind.i64 (Int.ofNat (posB1 s 44) + 1))) (Int.toNat (Int.ofNat (ByteArray.size s))) then
    (R (rd1 (ByteArray.extract s (Int.toNat (IntKind.wrap IntKind.i64 (Int.ofNat (posB1 s 44) + 1))) (Int.toNat (Int.ofNat (ByteArray.size s)))) a d (numOf (ByteArray.extract s 0 (Int.toNat (IntKind.wrap IntKind.i64 (Int.ofNat (posB1 s 44) + 0)))))))
   else
    False)
  else
   False)
 else
  (numIn s 8192) ∧
  (((.slice none 0 0) : Value) = (.slice none 0 0)) ∧
  (((.pointer (some ⟨25, 2, none⟩)) : Value) = (.pointer (some ⟨25, 2, none⟩))) ∧
  (bif decide (a ≥ 0) then
   (bif decide (a ≤ 1000000) then
    (bif decide (numOf s ≥ 0) then
     (bif decide (numOf s ≤ 8192) then
      (Q (.agg ⟨[(.int IntKind.i64 a), (.bool d), (.slice (some ⟨28, 0, none⟩) 1 18446744073709551617)]⟩) [some (.cells [(.int IntKind.i64 (numOf s))] 1 false)])
     else
      False)
    else
     False)
   else
    False)
  else
   False))) := by kernel_rfl
theorem vc_rd1 (s : ByteArray) (a : Int) (d : Bool) (k0 : Int) (Q : Value → List (Option IObj) → Prop) (R : Cfg → Prop) : VCt XRd pfRd f_fault_read [] rdS rdK Q R 1000 (rd1 s a d k0) = (
 (bif hasB s 44 then
  (bif decide (0 ≤ IntKind.wrap IntKind.i64 (Int.ofNat (posB1 s 44) + 0)) && Nat.ble (Int.toNat (IntKind.wrap IntKind.i64 (Int.ofNat (posB1 s 44) + 0))) (ByteArray.size s) && decide (0 ≤ 0) && Nat.ble 0 (Int.toNat (IntKind.wrap IntKind.i64 (Int.ofNat (posB1 s 44) + 0))) then
   (numIn (ByteArray.extract s 0 (Int.toNat (IntKind.wrap IntKind.i64 (Int.ofNat (posB1 s 44) + 0)))) 8192) ∧
   (((.slice (some ⟨27, 0, none⟩) 1 18446744073709551617) : Value) = (.slice (some ⟨27, 0, none⟩) 1 18446744073709551617)) ∧
   (((.pointer (some ⟨25, 2, none⟩)) : Value) = (.pointer (some ⟨25, 2, none⟩))) ∧
   (bif decide (0 ≤ Int.ofNat (ByteArray.size s)) && Nat.ble (Int.toNat (Int.ofNat (ByteArray.size s))) (ByteArray.size s) && decide (0 ≤ IntKind.wrap IntKind.i64 (Int.ofNat (posB1 s 44) + 1)) && Nat.ble (Int.toNat (IntKind.wrap IntKind.i64 (Int.ofNat (posB1 s 44) + 1))) (Int.toNat (Int.ofNat (ByteArray.size s))) then
    (R (rd2 (ByteArray.extract s (Int.toNat (IntKind.wrap IntKind.i64 (Int.ofNat (posB1 s 44) + 1))) (Int.toNat (Int.ofNat (ByteArray.size s)))) a d k0 (numOf (ByteArray.extract s 0 (Int.toNat (IntKind.wrap IntKind.i64 (Int.ofNat (posB1 s 44) + 0)))))))
   else
    False)
  else
   False)
 else
  (numIn s 8192) ∧
  (((.slice (some ⟨27, 0, none⟩) 1 18446744073709551617) : Value) = (.slice (some ⟨27, 0, none⟩) 1 18446744073709551617)) ∧
  (((.pointer (some ⟨25, 2, none⟩)) : Value) = (.pointer (some ⟨25, 2, none⟩))) ∧
  (bif decide (a ≥ 0) then
   (bif decide (a ≤ 1000000) then
    (bif decide (k0 ≥ 0) then
     (bif decide (k0 ≤ 8192) then
      (bif decide (numOf s ≥ 0) then
       (bif decide (numOf s ≤ 8192) then
        (Q (.agg ⟨[(.int IntKind.i64 a), (.bool d), (.slice (some ⟨29, 0, none⟩) 2 18446744073709551618)]⟩) [some (.cells [(.int IntKind.i64 k0), (.int IntKind.i64 (numOf s))] 1 false)])
       else
        False)
      else
       False)
     else
      False)
    else
     False)
   else
    False)
  else
   False))) := by kernel_rfl
theorem vc_rd2 (s : ByteArray) (a : Int) (d : Bool) (k0 k1 : Int) (Q : Value → List (Option IObj) → Prop) (R : Cfg → Prop) : VCt XRd pfRd f_fault_read [] rdS rdK Q R 1000 (rd2 s a d k0 k1) = (
 (bif hasB s 44 then
  (bif decide (0 ≤ IntKind.wrap IntKind.i64 (Int.ofNat (posB1 s 44) + 0)) && Nat.ble (Int.toNat (IntKind.wrap IntKind.i64 (Int.ofNat (posB1 s 44) + 0))) (ByteArray.size s) && decide (0 ≤ 0) && Nat.ble 0 (Int.toNat (IntKind.wrap IntKind.i64 (Int.ofNat (posB1 s 44) + 0))) then
   (numIn (ByteArray.extract s 0 (Int.toNat (IntKind.wrap IntKind.i64 (Int.ofNat (posB1 s 44) + 0)))) 8192) ∧
   (((.slice (some ⟨27, 0, none⟩) 2 18446744073709551618) : Value) = (.slice (some ⟨27, 0, none⟩) 2 18446744073709551618)) ∧
   (((.pointer (some ⟨25, 2, none⟩)) : Value) = (.pointer (some ⟨25, 2, none⟩))) ∧
   (bif decide (0 ≤ Int.ofNat (ByteArray.size s)) && Nat.ble (Int.toNat (Int.ofNat (ByteArray.size s))) (ByteArray.size s) && decide (0 ≤ IntKind.wrap IntKind.i64 (Int.ofNat (posB1 s 44) + 1)) && Nat.ble (Int.toNat (IntKind.wrap IntKind.i64 (Int.ofNat (posB1 s 44) + 1))) (Int.toNat (Int.ofNat (ByteArray.size s))) then
    (R (rd3 (ByteArray.extract s (Int.toNat (IntKind.wrap IntKind.i64 (Int.ofNat (posB1 s 44) + 1))) (Int.toNat (Int.ofNat (ByteArray.size s)))) a d k0 k1 (numOf (ByteArray.extract s 0 (Int.toNat (IntKind.wrap IntKind.i64 (Int.ofNat (posB1 s 44) + 0)))))))
   else
    False)
  else
   False)
 else
  (numIn s 8192) ∧
  (((.slice (some ⟨27, 0, none⟩) 2 18446744073709551618) : Value) = (.slice (some ⟨27, 0, none⟩) 2 18446744073709551618)) ∧
  (((.pointer (some ⟨25, 2, none⟩)) : Value) = (.pointer (some ⟨25, 2, none⟩))) ∧
  (bif decide (a ≥ 0) then
   (bif decide (a ≤ 1000000) then
    (bif decide (k0 ≥ 0) then
     (bif decide (k0 ≤ 8192) then
      (bif decide (k1 ≥ 0) then
       (bif decide (k1 ≤ 8192) then
        (bif decide (numOf s ≥ 0) then
         (bif decide (numOf s ≤ 8192) then
          (Q (.agg ⟨[(.int IntKind.i64 a), (.bool d), (.slice (some ⟨29, 0, none⟩) 3 18446744073709551619)]⟩) [some (.cells [(.int IntKind.i64 k0), (.int IntKind.i64 k1), (.int IntKind.i64 (numOf s))] 1 false)])
         else
          False)
        else
         False)
       else
        False)
      else
       False)
     else
      False)
    else
     False)
   else
    False)
  else
   False))) := by kernel_rfl
end Go.Ideal
