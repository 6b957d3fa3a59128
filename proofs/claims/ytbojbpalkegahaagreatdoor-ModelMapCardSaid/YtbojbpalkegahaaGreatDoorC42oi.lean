/-
  Part of the proof: the machine that runs a program by fixed orders, and that each of its runs is a run of the model; or a run of it in parts. No conditions.
-/
import Derived.Test.YtbojbpalkegahaaGreatDoorIdTell2
import Derived.Test.YtbojbpalkegahaaGreatDoorIdPackS
--CASTS
--SUB ([SK.str] ++ ([SK.str] ++ [])) => kSS
set_option maxRecDepth 1000000
namespace Go.Ideal
open Go.Proofs
abbrev kS : EK := [.str]
noncomputable def sl9 (n : Nat) : Value := .slice (some ⟨9, 0, some 0⟩) n capU
noncomputable def hR (l : List (EK.C kSS)) : IHeap := putL ⟨.leaf, 9⟩ [.vec kSS l true]
noncomputable def costT (l : List (EK.C kSS)) (s i : Int) : Cfg :=
  ⟨⟨f_drumlinlaw42_cost, mkT [(0, sl9 l.length), (3, .int .i64 s), (4, .int .i64 i)], 25, [.code (pcOf Tryz.prog f_drumlinlaw42_cost [1, 1, 0, 1, 0, 0]), .inLoop (pcOf Tryz.prog f_drumlinlaw42_cost [1, 1, 0, 1, 0, 0]), .inBlock 0, .code (pcOf Tryz.prog f_drumlinlaw42_cost [1, 1, 1])], [], false, .normal, none⟩, [], hR l⟩
def costS : Stop := ⟨f_drumlinlaw42_cost, 0, 3, 10, [9], [0, 3, 4]⟩
theorem vc_cost0 (l : List (EK.C kSS)) (Q : Value → List (Option IObj) → Prop) (R : Cfg → Prop) : VCs X0 noPf f_drumlinlaw42_cost [] costS Q R 100 (st f_drumlinlaw42_cost 25 [sl9 l.length] (hR l)) = (
 (R (costT l 0 0))) := by kernel_rfl
theorem vc_cost (l : List (EK.C kSS)) (s i : Int) (Q : Value → List (Option IObj) → Prop) (R : Cfg → Prop) : VCs X0 noPf f_drumlinlaw42_cost [] costS Q R 200 (costT l s i) = (
 (bif decide (i < Int.ofNat (List.length l)) then
  (bif decide (0 ≤ i) && Nat.blt (Int.toNat i) (List.length l) then
   (bif Nat.blt (0 + Int.toNat i) (List.length l) then
    (bif decide (0 ≤ i) && Nat.blt (Int.toNat i) (List.length l) then
     (bif Nat.blt (0 + Int.toNat i) (List.length l) then
      (((.int IntKind.i64 s) : Value) = (.int IntKind.i64 s)) ∧
      (R (costT l (IntKind.wrap IntKind.i64 (s + IntKind.wrap IntKind.i64 (IntKind.wrap IntKind.i64 (16 + Int.ofNat (ByteArray.size (Prod.fst (List.getD l (0 + Int.toNat i) (EK.dflt kSS))))) + Int.ofNat (ByteArray.size (Prod.snd (List.getD l (0 + Int.toNat i) (EK.dflt kSS))))))) (IntKind.wrap IntKind.i64 (i + 1))))
     else
      False)
    else
     False)
   else
    False)
  else
   False)
 else
  (Q (.int IntKind.i64 s) []))) := by kernel_rfl
noncomputable def valueT (l : List (EK.C kSS)) (key : ByteArray) (i : Int) : Cfg :=
  ⟨⟨f_drumlinlaw42_value, mkT [(0, sl9 l.length), (1, .string key), (6, .int .i64 i)], 25, [.code (pcOf Tryz.prog f_drumlinlaw42_value [1, 0, 1, 0, 0]), .inLoop (pcOf Tryz.prog f_drumlinlaw42_value [1, 0, 1, 0, 0]), .inBlock 0, .code (pcOf Tryz.prog f_drumlinlaw42_value [1, 1])], [], false, .normal, none⟩, [], hR l⟩
def valueS : Stop := ⟨f_drumlinlaw42_value, 0, 3, 10, [9], [0, 1, 6]⟩
theorem vc_value0 (l : List (EK.C kSS)) (key : ByteArray) (Q : Value → List (Option IObj) → Prop) (R : Cfg → Prop) : VCs X0 noPf f_drumlinlaw42_value [] valueS Q R 100 (st f_drumlinlaw42_value 25 [sl9 l.length, .string key] (hR l)) = (
 (R (valueT l key 0))) := by kernel_rfl
theorem vc_value (l : List (EK.C kSS)) (key : ByteArray) (i : Int) (Q : Value → List (Option IObj) → Prop) (R : Cfg → Prop) : VCs X0 noPf f_drumlinlaw42_value [] valueS Q R 200 (valueT l key i) = (
 (bif decide (i < Int.ofNat (List.length l)) then
  (bif decide (0 ≤ i) && Nat.blt (Int.toNat i) (List.length l) then
   (bif Nat.blt (0 + Int.toNat i) (List.length l) then
    (bif ByteArray.toList (Prod.fst (List.getD l (0 + Int.toNat i) (EK.dflt kSS))) == ByteArray.toList key then
     (bif decide (0 ≤ i) && Nat.blt (Int.toNat i) (List.length l) then
      (bif Nat.blt (0 + Int.toNat i) (List.length l) then
       (Q (.tuple ⟨[(.string (Prod.snd (List.getD l (0 + Int.toNat i) (EK.dflt kSS)))), (.bool true)]⟩) [])
      else
       False)
     else
      False)
    else
     (R (valueT l key (IntKind.wrap IntKind.i64 (i + 1)))))
   else
    False)
  else
   False)
 else
  (Q (.tuple ⟨[(.string ({ data := #[] })), (.bool false)]⟩) []))) := by kernel_rfl
noncomputable def hSS (l m : List (EK.C kS)) : IHeap := putL ⟨.leaf, 9⟩ [.vec kS l true, .vec kS m true]
noncomputable def strsT (l m : List (EK.C kS)) (i : Int) : Cfg :=
  ⟨⟨f_drumlinlaw42_strings, mkT [(0, sl9 l.length), (1, .slice (some ⟨10, 0, some 0⟩) m.length capU), (5, .int .i64 i)], 26, [.code (pcOf Tryz.prog f_drumlinlaw42_strings [1, 1, 0, 1, 0, 0]), .inLoop (pcOf Tryz.prog f_drumlinlaw42_strings [1, 1, 0, 1, 0, 0]), .inBlock 0, .code (pcOf Tryz.prog f_drumlinlaw42_strings [1, 1, 1])], [], false, .normal, none⟩, [], hSS l m⟩
def strsS : Stop := ⟨f_drumlinlaw42_strings, 0, 3, 11, [9, 10], [0, 1, 5]⟩
theorem vc_strs0 (l m : List (EK.C kS)) (Q : Value → List (Option IObj) → Prop) (R : Cfg → Prop) : VCs X0 noPf f_drumlinlaw42_strings [] strsS Q R 100 (st f_drumlinlaw42_strings 26 [sl9 l.length, .slice (some ⟨10, 0, some 0⟩) m.length capU] (hSS l m)) = (
 (bif Int.ofNat (List.length l) != Int.ofNat (List.length m) then
  (Q (.bool false) [])
 else
  (R (strsT l m 0)))) := by kernel_rfl
theorem vc_strs (l m : List (EK.C kS)) (i : Int) (Q : Value → List (Option IObj) → Prop) (R : Cfg → Prop) : VCs X0 noPf f_drumlinlaw42_strings [] strsS Q R 200 (strsT l m i) = (
 (bif decide (i < Int.ofNat (List.length l)) then
  (bif decide (0 ≤ i) && Nat.blt (Int.toNat i) (List.length l) then
   (bif Nat.blt (0 + Int.toNat i) (List.length l) then
    (bif decide (0 ≤ i) && Nat.blt (Int.toNat i) (List.length m) then
     (bif Nat.blt (0 + Int.toNat i) (List.length m) then
      (bif !ByteArray.toList (List.getD l (0 + Int.toNat i) (EK.dflt kS)) == ByteArray.toList (List.getD m (0 + Int.toNat i) (EK.dflt kS)) then
       (Q (.bool false) [])
      else
       (R (strsT l m (IntKind.wrap IntKind.i64 (i + 1)))))
     else
      False)
    else
     False)
   else
    False)
  else
   False)
 else
  (Q (.bool true) []))) := by kernel_rfl
noncomputable def listsC (l : List (EK.C kSS)) (x y : Value) (i : Int) (H : IHeap → IHeap) : Cfg :=
  ⟨⟨f_drumlinlaw42_lists, mkT [(0, sl9 l.length), (4, x), (5, y), (6, .int .i64 i)], 31, [.code (pcOf Tryz.prog f_drumlinlaw42_lists [1, 1, 0, 1, 0, 0]), .inLoop (pcOf Tryz.prog f_drumlinlaw42_lists [1, 1, 0, 1, 0, 0]), .inBlock 0, .code (pcOf Tryz.prog f_drumlinlaw42_lists [1, 1, 1])], [], false, .normal, none⟩, [], H (hR l)⟩
noncomputable def lists0 (l : List (EK.C kSS)) : Cfg := listsC l (.slice none 0 0) (.slice none 0 0) 0 id
noncomputable def listsT (l : List (EK.C kSS)) (ks vs : List (EK.C kS)) (x y : Value) (i : Int) : Cfg := listsC l x y i fun H => (H.alloc (.vec kS ks false)).alloc (.vec kS vs false)
def listsS : Stop := ⟨f_drumlinlaw42_lists, 0, 3, 10, [9], [0, 4, 5, 6]⟩
noncomputable def slN (b n : Nat) : Value := .slice (some ⟨b, 0, some 0⟩) n capU
theorem vc_lists0 (l : List (EK.C kSS)) (Q : Value → List (Option IObj) → Prop) (R : Cfg → Prop) : VCs X0 noPf f_drumlinlaw42_lists [] listsS Q R 100 (st f_drumlinlaw42_lists 31 [sl9 l.length] (hR l)) = (
 (R (lists0 l))) := by kernel_rfl
theorem vc_lists (l : List (EK.C kSS)) (ks vs : List (EK.C kS)) (n m : Nat) (i : Int) (Q : Value → List (Option IObj) → Prop) (R : Cfg → Prop) : VCs X0 noPf f_drumlinlaw42_lists [] listsS Q R 200 (listsT l ks vs (slN 10 n) (slN 11 m) i) = (
 (bif decide (i < Int.ofNat (List.length l)) then
  (bif decide (0 ≤ i) && Nat.blt (Int.toNat i) (List.length l) then
   (bif Nat.blt (0 + Int.toNat i) (List.length l) then
    (bif true && Nat.ble (0 + n) (List.length ks) && bigOk 16 (n + 1) then
     (bif decide (0 ≤ i) && Nat.blt (Int.toNat i) (List.length l) then
      (bif Nat.blt (0 + Int.toNat i) (List.length l) then
       (bif true && Nat.ble (0 + m) (List.length vs) && bigOk 16 (m + 1) then
        (R (listsT l (List.take n (List.drop 0 ks) ++ [Prod.fst (List.getD l (0 + Int.toNat i) (EK.dflt kSS))]) (List.take m (List.drop 0 vs) ++ [Prod.snd (List.getD l (0 + Int.toNat i) (EK.dflt kSS))]) (.slice (some ⟨10, 0, (some 0)⟩) (n + 1) 18446744073709551616) (.slice (some ⟨11, 0, (some 0)⟩) (m + 1) 18446744073709551616) (IntKind.wrap IntKind.i64 (i + 1))))
       else
        False)
      else
       False)
     else
      False)
    else
     False)
   else
    False)
  else
   False)
 else
  (Q (.tuple ⟨[(.slice (some ⟨10, 0, (some 0)⟩) n 18446744073709551616), (.slice (some ⟨11, 0, (some 0)⟩) m 18446744073709551616)]⟩) [some (.vec kS ks false), some (.vec kS vs false)]))) := by kernel_rfl
noncomputable def boxO (k a b : Int) (key val : ByteArray) : IObj := .cells [.int .i64 k, .int .i64 a, .int .i64 b, .string key, .string val] 0 false
def withP (bl : Nat) : List Nat := match bl with
  | 0 => [1, 1, 0, 1, 0, 0]
  | _ => [1, 1, 1, 1, 0, 1, 0, 0]
def withR (bl : Nat) : List Nat := match bl with
  | 0 => [1, 1, 1]
  | _ => [1, 1, 1, 1, 1]
noncomputable def withC (bl : Nat) (l : List (EK.C kSS)) (x i j : Value) (H : IHeap) : Cfg :=
  ⟨⟨f_drumlinlaw42_with, mkT [(0, sl9 l.length), (3, .pointer (some ⟨10, 0, none⟩)), (5, x), (6, i), (7, j)], 62, [.code (pcOf Tryz.prog f_drumlinlaw42_with (withP bl)), .inLoop (pcOf Tryz.prog f_drumlinlaw42_with (withP bl)), .inBlock bl, .code (pcOf Tryz.prog f_drumlinlaw42_with (withR bl))], [], false, .normal, none⟩, [], H⟩
noncomputable def with0 (bl : Nat) (l : List (EK.C kSS)) (k a b : Int) (key val : ByteArray) (x i j : Value) : Cfg := withC bl l x i j ((hR l).alloc (boxO k a b key val))
noncomputable def withT (bl : Nat) (l : List (EK.C kSS)) (k a b : Int) (key val : ByteArray) (out : List (EK.C kSS)) (x i j : Value) : Cfg := withC bl l x i j (((hR l).alloc (boxO k a b key val)).alloc (.vec kSS out false))
def withS : Stop := ⟨f_drumlinlaw42_with, 0, 3, 10, [9], [0, 3, 5, 6, 7]⟩
theorem vc_with0 (l : List (EK.C kSS)) (k a b : Int) (key val : ByteArray) (Q : Value → List (Option IObj) → Prop) (R : Cfg → Prop) : VCs X0 noPf f_drumlinlaw42_with [] withS Q R 100 (st f_drumlinlaw42_with 62 [sl9 l.length, opV k a b key val] (hR l)) = (
 (R (with0 0 l k a b key val (.slice none 0 0) (.int IntKind.i64 0) junk))) := by kernel_rfl
theorem vc_with1 (l : List (EK.C kSS)) (k a b : Int) (key val : ByteArray) (out : List (EK.C kSS)) (n : Nat) (i : Int) (Q : Value → List (Option IObj) → Prop) (R : Cfg → Prop) : VCs X0 noPf f_drumlinlaw42_with [] withS Q R 200 (withT 0 l k a b key val out (slN 11 n) (.int .i64 i) junk) = (
 (bif decide (i < Int.ofNat (List.length l)) then
  (bif decide (0 ≤ i) && Nat.blt (Int.toNat i) (List.length l) then
   (bif Nat.blt (0 + Int.toNat i) (List.length l) then
    (bif Op.bytesLess (ByteArray.toList (Prod.fst (List.getD l (0 + Int.toNat i) (EK.dflt kSS)))) (ByteArray.toList key) then
     (bif decide (0 ≤ i) && Nat.blt (Int.toNat i) (List.length l) then
      (bif Nat.blt (0 + Int.toNat i) (List.length l) then
       (bif true && Nat.ble (0 + n) (List.length out) && bigOk 32 (n + 1) then
        (R (withT 0 l k a b key val (List.take n (List.drop 0 out) ++ [(Prod.fst (List.getD l (0 + Int.toNat i) (EK.dflt kSS)), Prod.snd (List.getD l (0 + Int.toNat i) (EK.dflt kSS)))]) (.slice (some ⟨11, 0, (some 0)⟩) (n + 1) 18446744073709551616) (.int IntKind.i64 (IntKind.wrap IntKind.i64 (i + 1))) junk))
       else
        False)
      else
       False)
     else
      False)
    else
     (R (withT 0 l k a b key val out (.slice (some ⟨11, 0, (some 0)⟩) n 18446744073709551616) (.int IntKind.i64 (IntKind.wrap IntKind.i64 (i + 1))) junk)))
   else
    False)
  else
   False)
 else
  (bif k == 1 then
   (bif true && Nat.ble (0 + n) (List.length out) && bigOk 32 (n + 1) then
    (R (withT 2 l k a b key val (List.take n (List.drop 0 out) ++ [(key, val)]) (.slice (some ⟨11, 0, (some 0)⟩) (n + 1) 18446744073709551616) (.int IntKind.i64 i) (.int IntKind.i64 0)))
   else
    False)
  else
   (R (withT 2 l k a b key val out (.slice (some ⟨11, 0, (some 0)⟩) n 18446744073709551616) (.int IntKind.i64 i) (.int IntKind.i64 0)))))) := by kernel_rfl
theorem vc_with2 (l : List (EK.C kSS)) (k a b : Int) (key val : ByteArray) (out : List (EK.C kSS)) (n : Nat) (i i6 : Int) (Q : Value → List (Option IObj) → Prop) (R : Cfg → Prop) : VCs X0 noPf f_drumlinlaw42_with [] withS Q R 200 (withT 2 l k a b key val out (slN 11 n) (.int .i64 i6) (.int .i64 i)) = (
 (bif decide (i < Int.ofNat (List.length l)) then
  (bif decide (0 ≤ i) && Nat.blt (Int.toNat i) (List.length l) then
   (bif Nat.blt (0 + Int.toNat i) (List.length l) then
    (bif !(Op.bytesLess (ByteArray.toList (Prod.fst (List.getD l (0 + Int.toNat i) (EK.dflt kSS)))) (ByteArray.toList key) || ByteArray.toList (Prod.fst (List.getD l (0 + Int.toNat i) (EK.dflt kSS))) == ByteArray.toList key) then
     (bif decide (0 ≤ i) && Nat.blt (Int.toNat i) (List.length l) then
      (bif Nat.blt (0 + Int.toNat i) (List.length l) then
       (bif true && Nat.ble (0 + n) (List.length out) && bigOk 32 (n + 1) then
        (R (withT 2 l k a b key val (List.take n (List.drop 0 out) ++ [(Prod.fst (List.getD l (0 + Int.toNat i) (EK.dflt kSS)), Prod.snd (List.getD l (0 + Int.toNat i) (EK.dflt kSS)))]) (.slice (some ⟨11, 0, (some 0)⟩) (n + 1) 18446744073709551616) (.int IntKind.i64 i6) (.int IntKind.i64 (IntKind.wrap IntKind.i64 (i + 1)))))
       else
        False)
      else
       False)
     else
      False)
    else
     (R (withT 2 l k a b key val out (.slice (some ⟨11, 0, (some 0)⟩) n 18446744073709551616) (.int IntKind.i64 i6) (.int IntKind.i64 (IntKind.wrap IntKind.i64 (i + 1))))))
   else
    False)
  else
   False)
 else
  (Q (.slice (some ⟨11, 0, (some 0)⟩) n 18446744073709551616) [some (.vec kSS out false)]))) := by kernel_rfl
end Go.Ideal

set_option maxRecDepth 1000000
namespace Go.Ideal
open Go.Proofs
def pairCost (x : EK.C kSS) : Int := 16 + x.1.size + x.2.size
def costOf (l : List (EK.C kSS)) : Int := (l.map pairCost).sum
def smallL (l : List (EK.C kSS)) : Prop := l.length < 1000000 ∧ ∀ x ∈ l, x.1.size < 1000000 ∧ x.2.size < 1000000
theorem wrap_id {x : Int} (h1 : 0 ≤ x) (h2 : x < 9223372036854775808) : IntKind.wrap .i64 x = x := wrap64 (by omega) (by omega)
theorem cost_bound : ∀ (l : List (EK.C kSS)), (∀ x ∈ l, x.1.size < 1000000 ∧ x.2.size < 1000000) → 0 ≤ costOf l ∧ costOf l ≤ 2000016 * l.length
  | [], _ => by simp [costOf]
  | x :: l, h => by
    have h1 := cost_bound l (fun y hy => h y (by simp [hy]))
    have h2 := h x (by simp)
    have e : costOf (x :: l) = pairCost x + costOf l := by simp [costOf]
    rw [e]
    simp only [List.length_cons, pairCost]
    omega
theorem getD_at {α : Type} {l : List α} {i : Nat} {d : α} (h : i < l.length) : l.getD (0 + Int.toNat (i : Int)) d = l[i] := by
  rw [Int.toNat_natCast, Nat.zero_add, List.getD_eq_getElem?_getD, List.getElem?_eq_getElem h]; rfl
theorem succ_wrap {i : Nat} (h : i < 4611686018427387904) : IntKind.wrap .i64 ((i : Int) + 1) = ((i + 1 : Nat) : Int) := by
  rw [wrap64 (by omega) (by omega)]; rfl
theorem cost_loop (l : List (EK.C kSS)) (hs : smallL l) : ∀ (m i : Nat), l.length - i = m → i ≤ l.length → EndsN X0 10 f_drumlinlaw42_cost (fun v _ => v = .int .i64 (costOf l)) (costT l (costOf (l.take i)) i) := by
  intro m
  induction m with
  | zero =>
    intro i hm hi
    refine VCs_ok (noPf_ok X0) (ids := []) (S := costS) rfl (Q := fun v _ => v = .int .i64 (costOf l)) (R := fun _ => False) (fun v H h => h) (fun c h => h.elim) 200 _ ?_
    rw [vc_cost]
    refine bif_decide (fun h => ?_) (fun _ => ?_)
    · exfalso; have : (i : Int) < l.length := h; omega
    · show Value.int .i64 _ = _
      rw [show l.take i = l from List.take_of_length_le (by omega)]
  | succ m ih =>
    intro i hm hi
    have hlt : i < l.length := by omega
    refine VCs_ok (noPf_ok X0) (ids := []) (S := costS) rfl (Q := fun v _ => v = .int .i64 (costOf l)) (R := fun c => c = costT l (costOf (l.take (i + 1))) (i + 1 : Nat)) (fun v H h => h) (fun c h => by rw [h]; exact ih (i + 1) (by omega) (by omega)) 200 _ ?_
    rw [vc_cost]
    refine bif_decide (fun h => ?_) (fun h => absurd (show (i : Int) < Int.ofNat l.length by simpa using hlt) h)
    refine bif_true (ca hlt) (bif_true (cb hlt) (bif_true (ca hlt) (bif_true (cb hlt) ⟨rfl, ?_⟩)))
    have hx : l.take (i + 1) = l.take i ++ [l[i]] := by rw [List.take_succ_eq_append_getElem hlt]
    have hc : costOf (l.take (i + 1)) = costOf (l.take i) + pairCost l[i] := by rw [hx]; unfold costOf; rw [List.map_append, List.sum_append]; simp
    have hb1 := cost_bound (l.take i) (fun y hy => hs.2 y (List.mem_of_mem_take hy))
    have hb2 := hs.2 l[i] (List.getElem_mem hlt)
    have hlen : (l.take i).length ≤ 1000000 := by rw [List.length_take]; have := hs.1; omega
    rw [getD_at hlt, hc]
    have hsz1 : (Int.ofNat (l[i]).1.size) = ((l[i]).1.size : Int) := rfl
    have hsz2 : (Int.ofNat (l[i]).2.size) = ((l[i]).2.size : Int) := rfl
    rw [hsz1, hsz2, wrap_id (x := 16 + ((l[i]).1.size : Int)) (by omega) (by omega), wrap_id (x := 16 + ((l[i]).1.size : Int) + ((l[i]).2.size : Int)) (by omega) (by omega)]
    have hp : pairCost l[i] = 16 + ((l[i]).1.size : Int) + ((l[i]).2.size : Int) := rfl
    rw [wrap_id (by omega) (by omega), succ_wrap (by have := hs.1; omega), hp]
noncomputable def costG (args : List Value) (objs : List IObj) : GT :=
  match args, objs with
  | [.slice (some ⟨9, 0, some 0⟩) n c], [.vec [.str, .str] l _] => .ask ((n = l.length ∧ c = capU) ∧ smallL l) (.ret ⟨.int .i64 (costOf l), [], []⟩)
  | _, _ => .fail
theorem iok_cost : IOk Tryz.prog tab42 f_drumlinlaw42_cost (footF tab42 9 [] costG) := by
  refine iok_footD (AllOk.nil _ _) (by kernel_rfl) (n := 25) (by kernel_rfl) (by kernel_rfl) fun argsc objs x hx hro => ?_
  unfold costG at hx
  split at hx
  · rename_i n c l ro
    simp only [GT.run] at hx
    split at hx
    · rename_i hok
      obtain ⟨⟨rfl, rfl⟩, hs⟩ := hok
      cases hx
      refine ⟨by simp, ?_⟩
      have hE : EndsN X0 10 f_drumlinlaw42_cost (fun v _ => v = .int .i64 (costOf l)) (st f_drumlinlaw42_cost 25 [sl9 l.length] (hR l)) := by
        refine VCs_ok (noPf_ok X0) (ids := []) (S := costS) rfl (Q := fun _ _ => False) (R := fun c => c = costT l 0 0) (fun v H h => h.elim) (fun c h => by rw [h]; exact cost_loop l hs l.length 0 (by omega) (by omega)) 100 _ ?_
        rw [vc_cost0]
      exact hE.toD.mono fun v H h => by rw [h]; exact tm_plain rfl
    · cases hx
  · cases hx
def valK (l : List (EK.C kSS)) (key : ByteArray) : Option ByteArray := (l.find? fun x => ByteArray.toList x.1 == ByteArray.toList key).map (·.2)
noncomputable def valV (l : List (EK.C kSS)) (key : ByteArray) : Value := .tuple ⟨[.string ((valK l key).getD e0), .bool (valK l key).isSome]⟩
theorem value_loop (l : List (EK.C kSS)) (key : ByteArray) (hs : l.length < 1000000) : ∀ (m i : Nat), l.length - i = m → i ≤ l.length → EndsN X0 10 f_drumlinlaw42_value (fun v _ => v = valV (l.drop i) key) (valueT l key i) := by
  intro m
  induction m with
  | zero =>
    intro i hm hi
    refine VCs_ok (noPf_ok X0) (ids := []) (S := valueS) rfl (Q := fun v _ => v = valV (l.drop i) key) (R := fun _ => False) (fun v H h => h) (fun c h => h.elim) 200 _ ?_
    rw [vc_value, List.drop_eq_nil_of_le (by omega)]
    refine bif_decide (fun h => ?_) (fun _ => rfl)
    exfalso; have : (i : Int) < l.length := h; omega
  | succ m ih =>
    intro i hm hi
    have hlt : i < l.length := by omega
    refine VCs_ok (noPf_ok X0) (ids := []) (S := valueS) rfl (Q := fun v _ => v = valV (l.drop i) key) (R := fun c => valV (l.drop i) key = valV (l.drop (i + 1)) key ∧ c = valueT l key (i + 1 : Nat)) (fun v H h => h) (fun c h => by rw [h.1, h.2]; exact ih (i + 1) (by omega) (by omega)) 200 _ ?_
    rw [vc_value]
    refine bif_decide (fun h => ?_) (fun h => absurd (show (i : Int) < Int.ofNat l.length by simpa using hlt) h)
    refine bif_true (ca hlt) (bif_true (cb hlt) ?_)
    rw [getD_at hlt, succ_wrap (by omega), List.drop_eq_getElem_cons hlt]
    refine bif_both (fun h => bif_true (ca hlt) (bif_true (cb hlt) ?_)) (fun h => ⟨?_, rfl⟩)
    · unfold valV valK
      simp only [List.find?_cons, h]; rfl
    · unfold valV valK
      simp only [List.find?_cons, h]
noncomputable def valueG (args : List Value) (objs : List IObj) : GT :=
  match args, objs with
  | [.slice (some ⟨9, 0, some 0⟩) n c, .string key], [.vec [.str, .str] l _] => .ask ((n = l.length ∧ c = capU) ∧ l.length < 1000000) (.ret ⟨.tuple ⟨[.string ((valK l key).getD e0), .bool (valK l key).isSome]⟩, [], []⟩)
  | _, _ => .fail
theorem iok_value : IOk Tryz.prog tab42 f_drumlinlaw42_value (footF tab42 9 [] valueG) := by
  refine iok_footD (AllOk.nil _ _) (by kernel_rfl) (n := 25) (by kernel_rfl) (by kernel_rfl) fun argsc objs x hx hro => ?_
  unfold valueG at hx
  split at hx
  · rename_i n c key l ro
    simp only [GT.run] at hx
    split at hx
    · rename_i hok
      obtain ⟨⟨rfl, rfl⟩, hs⟩ := hok
      cases hx
      refine ⟨by simp, ?_⟩
      have hE : EndsN X0 10 f_drumlinlaw42_value (fun v _ => v = valV l key) (st f_drumlinlaw42_value 25 [sl9 l.length, .string key] (hR l)) := by
        refine VCs_ok (noPf_ok X0) (ids := []) (S := valueS) rfl (Q := fun _ _ => False) (R := fun c => c = valueT l key 0) (fun v H h => h.elim) (fun c h => by rw [h]; exact value_loop l key hs l.length 0 (by omega) (by omega)) 100 _ ?_
        rw [vc_value0]
      exact hE.toD.mono fun v H h => by rw [h]; exact tm_plain rfl
    · cases hx
  · cases hx
def strsEq (l m : List (EK.C kS)) : Bool := List.map ByteArray.toList l == List.map ByteArray.toList m
theorem strs_loop (l m : List (EK.C kS)) (hl : l.length = m.length) (hs : l.length < 1000000) : ∀ (q i : Nat), l.length - i = q → i ≤ l.length → EndsN X0 11 f_drumlinlaw42_strings (fun v _ => v = .bool (strsEq (l.drop i) (m.drop i))) (strsT l m i) := by
  intro q
  induction q with
  | zero =>
    intro i hm hi
    refine VCs_ok (noPf_ok X0) (ids := []) (S := strsS) rfl (Q := fun v _ => v = .bool (strsEq (l.drop i) (m.drop i))) (R := fun _ => False) (fun v H h => h) (fun c h => h.elim) 200 _ ?_
    rw [vc_strs, List.drop_eq_nil_of_le (by omega), List.drop_eq_nil_of_le (by omega)]
    refine bif_decide (fun h => ?_) (fun _ => rfl)
    exfalso; have : (i : Int) < l.length := h; omega
  | succ q ih =>
    intro i hm hi
    have hlt : i < l.length := by omega
    have hlt2 : i < m.length := by omega
    refine VCs_ok (noPf_ok X0) (ids := []) (S := strsS) rfl (Q := fun v _ => v = .bool (strsEq (l.drop i) (m.drop i))) (R := fun c => strsEq (l.drop i) (m.drop i) = strsEq (l.drop (i + 1)) (m.drop (i + 1)) ∧ c = strsT l m (i + 1 : Nat)) (fun v H h => h) (fun c h => by rw [h.1, h.2]; exact ih (i + 1) (by omega) (by omega)) 200 _ ?_
    rw [vc_strs]
    refine bif_decide (fun h => ?_) (fun h => absurd (show (i : Int) < Int.ofNat l.length by simpa using hlt) h)
    refine bif_true (ca hlt) (bif_true (cb hlt) (bif_true (ca hlt2) (bif_true (cb hlt2) ?_)))
    rw [getD_at hlt, getD_at hlt2, succ_wrap (by omega), List.drop_eq_getElem_cons hlt, List.drop_eq_getElem_cons hlt2]
    have e : ∀ (a b : ByteArray) (x y : List (EK.C kS)), strsEq (a :: x) (b :: y) = (ByteArray.toList a == ByteArray.toList b && strsEq x y) := fun a b x y => rfl
    rw [e]
    refine bif_both (fun h => ?_) (fun h => ⟨?_, rfl⟩)
    · rw [Bool.not_eq_true'] at h; rw [h]; rfl
    · rw [Bool.not_eq_false'] at h; rw [h]; rfl
noncomputable def strsG (args : List Value) (objs : List IObj) : GT :=
  match args, objs with
  | [.slice (some ⟨9, 0, some 0⟩) n c, .slice (some ⟨10, 0, some 0⟩) n2 c2], [.vec [.str] l _, .vec [.str] m _] => .ask ((n = l.length ∧ c = capU) ∧ (n2 = m.length ∧ c2 = capU) ∧ l.length < 1000000 ∧ m.length < 1000000) (.ret ⟨.bool (strsEq l m), [], []⟩)
  | _, _ => .fail
theorem iok_strs : IOk Tryz.prog tab42 f_drumlinlaw42_strings (footF tab42 9 [] strsG) := by
  refine iok_footD (AllOk.nil _ _) (by kernel_rfl) (n := 26) (by kernel_rfl) (by kernel_rfl) fun argsc objs x hx hro => ?_
  unfold strsG at hx
  split at hx
  · rename_i n c n2 c2 l r1 m r2
    simp only [GT.run] at hx
    split at hx
    · rename_i hok
      obtain ⟨⟨rfl, rfl⟩, ⟨rfl, rfl⟩, hs, hs2⟩ := hok
      cases hx
      refine ⟨by simp, ?_⟩
      have hE : EndsN X0 11 f_drumlinlaw42_strings (fun v _ => v = .bool (strsEq l m)) (st f_drumlinlaw42_strings 26 [sl9 l.length, .slice (some ⟨10, 0, some 0⟩) m.length capU] (hSS l m)) := by
        refine VCs_ok (noPf_ok X0) (ids := []) (S := strsS) rfl (Q := fun v _ => v = .bool (strsEq l m)) (R := fun c => l.length = m.length ∧ c = strsT l m 0) (fun v H h => h) (fun c h => by rw [h.2]; exact strs_loop l m h.1 hs l.length 0 (by omega) (by omega)) 100 _ ?_
        rw [vc_strs0]
        refine bif_both (fun h => ?_) (fun h => ⟨?_, rfl⟩)
        · have hne : l.length ≠ m.length := by intro e; rw [e] at h; simp at h
          have : strsEq l m = false := by
            cases hq : strsEq l m
            · rfl
            · exfalso
              have := congrArg List.length (eq_of_beq hq)
              simp only [List.length_map] at this
              exact hne this
          rw [this]
        · have : (Int.ofNat l.length) = Int.ofNat m.length := by simpa using h
          exact Int.ofNat.inj this
      exact hE.toD.mono fun v H h => by rw [h]; exact tm_plain rfl
    · cases hx
  · cases hx
end Go.Ideal

set_option maxRecDepth 1000000
namespace Go.Ideal
open Go.Proofs
theorem big16 {n : Nat} (h : n < 1000000) : bigOk 16 (n + 1) = true := by
  unfold bigOk
  rw [Nat.ble_eq_true_of_le (by omega), Nat.ble_eq_true_of_le (by omega)]; rfl
theorem room {b n m : Nat} (hb : bigOk b (n + 1) = true) (h : n = m) : (true && Nat.ble (0 + n) m && bigOk b (n + 1)) = true := by
  rw [hb, Nat.ble_eq_true_of_le (by omega)]; rfl
def kysOf (l : List (EK.C kSS)) : List (EK.C kS) := l.map (·.1)
def vlsOf (l : List (EK.C kSS)) : List (EK.C kS) := l.map (·.2)
theorem take_map_succ {l : List (EK.C kSS)} {i : Nat} (h : i < l.length) (f : EK.C kSS → EK.C kS) : List.map f (l.take i) ++ [f l[i]] = List.map f (l.take (i + 1)) := by
  rw [List.take_succ_eq_append_getElem h, List.map_append]; rfl
theorem lists_loop (l : List (EK.C kSS)) (hs : l.length < 1000000) : ∀ (q i : Nat), l.length - i = q → i ≤ l.length →
    EndsN X0 10 f_drumlinlaw42_lists (fun v H => v = .tuple ⟨[slN 10 l.length, slN 11 l.length]⟩ ∧ H.get 10 = some (.vec kS (kysOf l) false) ∧ H.get 11 = some (.vec kS (vlsOf l) false)) (listsT l (kysOf (l.take i)) (vlsOf (l.take i)) (slN 10 i) (slN 11 i) i) := by
  intro q
  induction q with
  | zero =>
    intro i hm hi
    have he : i = l.length := by omega
    subst he
    refine VCs_ok (noPf_ok X0) (ids := []) (S := listsS) rfl (Q := fun v os => v = .tuple ⟨[slN 10 l.length, slN 11 l.length]⟩ ∧ os = [some (.vec kS (kysOf l) false), some (.vec kS (vlsOf l) false)]) (R := fun _ => False) (fun v H h => ?_) (fun c h => h.elim) 200 _ ?_
    · obtain ⟨rfl, h⟩ := h
      have h : [H.get 10, H.get 11] = _ := h
      simp only [List.cons.injEq, and_true] at h
      exact ⟨rfl, h.1, h.2⟩
    · rw [vc_lists, List.take_length]
      refine bif_decide (fun h => ?_) (fun _ => ⟨by unfold slN; rw [capL], rfl⟩)
      exfalso; have : (l.length : Int) < l.length := h; omega
  | succ q ih =>
    intro i hm hi
    have hlt : i < l.length := by omega
    refine VCs_ok (noPf_ok X0) (ids := []) (S := listsS) rfl (Q := fun _ _ => False) (R := fun c => c = listsT l (kysOf (l.take (i + 1))) (vlsOf (l.take (i + 1))) (slN 10 (i + 1)) (slN 11 (i + 1)) (i + 1 : Nat)) (fun v H h => h.elim) (fun c h => by rw [h]; exact ih (i + 1) (by omega) (by omega)) 200 _ ?_
    rw [vc_lists]
    refine bif_decide (fun h => ?_) (fun h => absurd (show (i : Int) < Int.ofNat l.length by simpa using hlt) h)
    have e1 : (kysOf (l.take i)).length = i := by unfold kysOf; rw [List.length_map, List.length_take]; omega
    have e2 : (vlsOf (l.take i)).length = i := by unfold vlsOf; rw [List.length_map, List.length_take]; omega
    refine bif_true (ca hlt) (bif_true (cb hlt) (bif_true (room (big16 (by omega)) e1.symm) (bif_true (ca hlt) (bif_true (cb hlt) (bif_true (room (big16 (by omega)) e2.symm) ?_)))))
    rw [getD_at hlt, succ_wrap (by omega), List.drop_zero, List.drop_zero, List.take_of_length_le (l := kysOf (l.take i)) (by omega), List.take_of_length_le (l := vlsOf (l.take i)) (by omega)]
    unfold slN
    rw [← capL]
    rw [show kysOf (l.take i) ++ [(l[i]).1] = kysOf (l.take (i + 1)) from take_map_succ hlt (fun x => x.1), show vlsOf (l.take i) ++ [(l[i]).2] = vlsOf (l.take (i + 1)) from take_map_succ hlt (fun x => x.2)]
noncomputable def listsG (args : List Value) (objs : List IObj) : GT :=
  match args, objs with
  | [.slice (some ⟨9, 0, some 0⟩) n c], [.vec [.str, .str] l _] => .ask ((n = l.length ∧ c = capU) ∧ l.length < 1000000) (.ret ⟨.tuple ⟨[.slice (some ⟨10, 0, some 0⟩) l.length capU, .slice (some ⟨11, 0, some 0⟩) l.length capU]⟩, [], [.vec kS (kysOf l) false, .vec kS (vlsOf l) false]⟩)
  | _, _ => .fail
theorem tm_new2 {v v1 : Value} {H : IHeap} {m b1 b2 : Nat} {o1 o2 : IObj} (h1 : 9 + m ≤ b1) (h2 : 9 + m ≤ b2) (hne : b1 ≠ b2) (hv : renV (TMatch.runOf tab42 9 m [b1, b2]) v = some v1)
    (g1 : ∃ p, renO (TMatch.runOf tab42 9 m [b1, b2]) o1 = some p ∧ H.get b1 = some p) (g2 : ∃ p, renO (TMatch.runOf tab42 9 m [b1, b2]) o2 = some p ∧ H.get b2 = some p) : TMatch tab42 9 m [] ⟨v, [], [o1, o2]⟩ v1 H := by
  refine ⟨[b1, b2], by simp [hne], fun b hb => by simp at hb; omega, rfl, hv, fun j b o hj ho => ?_, fun j o hj hm => by cases hm⟩
  cases j with
  | zero => cases hj; cases ho; exact g1
  | succ j => cases j with
    | zero => cases hj; cases ho; exact g2
    | succ j => cases hj
theorem iok_lists : IOk Tryz.prog tab42 f_drumlinlaw42_lists (footF tab42 9 [] listsG) := by
  refine iok_footD (AllOk.nil _ _) (by kernel_rfl) (n := 31) (by kernel_rfl) (by kernel_rfl) fun argsc objs x hx hro => ?_
  unfold listsG at hx
  split at hx
  · rename_i n c l ro
    simp only [GT.run] at hx
    split at hx
    · rename_i hok
      obtain ⟨⟨rfl, rfl⟩, hs⟩ := hok
      cases hx
      refine ⟨by simp, ?_⟩
      have hE : EndsN X0 10 f_drumlinlaw42_lists (fun v H => v = .tuple ⟨[slN 10 l.length, slN 11 l.length]⟩ ∧ H.get 10 = some (.vec kS (kysOf l) false) ∧ H.get 11 = some (.vec kS (vlsOf l) false)) (st f_drumlinlaw42_lists 31 [sl9 l.length] (hR l)) := by
        refine VCs_ok (noPf_ok X0) (ids := []) (S := listsS) rfl (Q := fun _ _ => False) (R := fun c => c = lists0 l) (fun v H h => h.elim) (fun c h => ?_) 100 _ ?_
        · rw [h]
          refine ReachN.fuzz 4 0 kS (by rfl) (by rfl) (show look _ 0 = .slice (some ⟨9, 0, some 0⟩) l.length capU from rfl) (by decide) ?_
          refine ReachN.fuzz 5 0 kS (by rfl) (by rfl) (show look _ 0 = .slice (some ⟨9, 0, some 0⟩) l.length capU from rfl) (by decide) ?_
          exact lists_loop l hs l.length 0 (by omega) (by omega)
        · rw [vc_lists0]
      refine hE.toD.mono fun v H h => ?_
      obtain ⟨rfl, h1, h2⟩ := h
      exact tm_new2 (m := 1) (b1 := 10) (b2 := 11) (by omega) (by omega) (by omega) rfl ⟨_, rfl, h1⟩ ⟨_, rfl, h2⟩
    · cases hx
  · cases hx
def gtK (a b : ByteArray) : Bool := !(Op.bytesLess (ByteArray.toList a) (ByteArray.toList b) || ByteArray.toList a == ByteArray.toList b)
def lowL (l : List (EK.C kSS)) (key : ByteArray) : List (EK.C kSS) := l.filter fun x => Op.bytesLess (ByteArray.toList x.1) (ByteArray.toList key)
def highL (l : List (EK.C kSS)) (key : ByteArray) : List (EK.C kSS) := l.filter fun x => gtK x.1 key
def withL (l : List (EK.C kSS)) (k : Int) (key val : ByteArray) : List (EK.C kSS) := (bif k == 1 then lowL l key ++ [(key, val)] else lowL l key) ++ highL l key
noncomputable abbrev WithE (w : List (EK.C kSS)) (v : Value) (H : IHeap) : Prop := v = slN 11 w.length ∧ H.get 11 = some (.vec kSS w false)
theorem take_filter_succ {l : List (EK.C kSS)} {i : Nat} (h : i < l.length) (p : EK.C kSS → Bool) : (l.take (i + 1)).filter p = (l.take i).filter p ++ (bif p l[i] then [l[i]] else []) := by
  rw [List.take_succ_eq_append_getElem h, List.filter_append]
  cases hp : p l[i] <;> simp [hp]
theorem with_loop2 (l : List (EK.C kSS)) (k a b : Int) (key val : ByteArray) (i6 : Int) (pre : List (EK.C kSS)) (hs : l.length < 400000) (hp : pre.length < 500000) : ∀ (q i : Nat), l.length - i = q → i ≤ l.length →
    EndsN X0 10 f_drumlinlaw42_with (WithE (pre ++ highL l key)) (withT 2 l k a b key val (pre ++ highL (l.take i) key) (slN 11 (pre ++ highL (l.take i) key).length) (.int .i64 i6) (.int .i64 i)) := by
  intro q
  induction q with
  | zero =>
    intro i hm hi
    have he : i = l.length := by omega
    subst he
    refine VCs_ok (noPf_ok X0) (ids := []) (S := withS) rfl (Q := fun v os => v = slN 11 (pre ++ highL l key).length ∧ os = [some (.vec kSS (pre ++ highL l key) false)]) (R := fun _ => False) (fun v H h => ?_) (fun c h => h.elim) 200 _ ?_
    · obtain ⟨rfl, h⟩ := h
      have h : [H.get 11] = _ := h
      simp only [List.cons.injEq, and_true] at h
      exact ⟨rfl, h⟩
    · rw [vc_with2, List.take_length]
      refine bif_decide (fun h => ?_) (fun _ => ⟨by unfold slN; rw [capL], rfl⟩)
      exfalso; have : (l.length : Int) < l.length := h; omega
  | succ q ih =>
    intro i hm hi
    have hlt : i < l.length := by omega
    have hlen : (highL (l.take i) key).length ≤ i := by
      have := List.length_filter_le (fun x : EK.C kSS => gtK x.1 key) (l.take i)
      rw [List.length_take] at this
      show (List.filter _ _).length ≤ i
      omega
    refine VCs_ok (noPf_ok X0) (ids := []) (S := withS) rfl (Q := fun _ _ => False) (R := fun c => c = withT 2 l k a b key val (pre ++ highL (l.take (i + 1)) key) (slN 11 (pre ++ highL (l.take (i + 1)) key).length) (.int .i64 i6) (.int .i64 (i + 1 : Nat))) (fun v H h => h.elim) (fun c h => by rw [h]; exact ih (i + 1) (by omega) (by omega)) 200 _ ?_
    rw [vc_with2]
    have hstep := take_filter_succ hlt (fun x => gtK x.1 key)
    refine bif_decide (fun h => ?_) (fun h => absurd (show (i : Int) < Int.ofNat l.length by simpa using hlt) h)
    refine bif_true (ca hlt) (bif_true (cb hlt) ?_)
    rw [getD_at hlt, succ_wrap (by omega), List.drop_zero, List.take_length]
    refine bif_both (b := gtK l[i].1 key) (fun h => bif_true (ca hlt) (bif_true (cb hlt) (bif_true (room (big32 (by rw [List.length_append]; omega)) rfl) ?_))) (fun h => ?_)
    · have e : highL (l.take (i + 1)) key = highL (l.take i) key ++ [l[i]] := by
        unfold highL; rw [hstep]; show _ ++ (bif gtK l[i].1 key then _ else _) = _; rw [h]; rfl
      rw [e, ← List.append_assoc, List.length_append (bs := [l[i]])]
      unfold slN
      rw [← capL]; rfl
    · have e : highL (l.take (i + 1)) key = highL (l.take i) key := by
        unfold highL; rw [hstep]; show _ ++ (bif gtK l[i].1 key then _ else _) = _; rw [h]; exact List.append_nil _
      rw [e]
      unfold slN
      rw [← capL]
theorem with_loop1 (l : List (EK.C kSS)) (k a b : Int) (key val : ByteArray) (hs : l.length < 400000) : ∀ (q i : Nat), l.length - i = q → i ≤ l.length →
    EndsN X0 10 f_drumlinlaw42_with (WithE (withL l k key val)) (withT 0 l k a b key val (lowL (l.take i) key) (slN 11 (lowL (l.take i) key).length) (.int .i64 i) junk) := by
  intro q
  have hlow : (lowL l key).length ≤ l.length := List.length_filter_le _ _
  induction q with
  | zero =>
    intro i hm hi
    have he : i = l.length := by omega
    subst he
    refine VCs_ok (noPf_ok X0) (ids := []) (S := withS) rfl (Q := fun _ _ => False) (R := fun c => c = withT 2 l k a b key val (bif k == 1 then lowL l key ++ [(key, val)] else lowL l key) (slN 11 (bif k == 1 then lowL l key ++ [(key, val)] else lowL l key).length) (.int .i64 l.length) (.int .i64 0)) (fun v H h => h.elim) (fun c h => ?_) 200 _ ?_
    · rw [h]
      have hp : (bif k == 1 then lowL l key ++ [(key, val)] else lowL l key).length < 500000 := by
        cases k == 1
        · show (lowL l key).length < _; omega
        · show (lowL l key ++ [(key, val)]).length < _; rw [List.length_append, List.length_singleton]; omega
      have := with_loop2 l k a b key val l.length _ hs hp l.length 0 (by omega) (by omega)
      rw [List.take_zero, show highL [] key = [] from rfl, List.append_nil] at this
      exact this
    · rw [vc_with1, List.take_length]
      refine bif_decide (fun h => ?_) (fun _ => ?_)
      · exfalso; have : (l.length : Int) < l.length := h; omega
      rw [List.drop_zero, List.take_length]
      refine bif_both (fun h => bif_true (room (big32 (by omega)) rfl) ?_) (fun h => ?_)
      · rw [h]
        unfold slN
        rw [capL]
        simp only [cond_true, List.length_append, List.length_singleton]
      · rw [h]
        unfold slN
        rw [capL]
        rfl
  | succ q ih =>
    intro i hm hi
    have hlt : i < l.length := by omega
    have hlen : (lowL (l.take i) key).length ≤ i := by
      have := List.length_filter_le (fun x : EK.C kSS => Op.bytesLess (ByteArray.toList x.1) (ByteArray.toList key)) (l.take i)
      rw [List.length_take] at this
      show (List.filter _ _).length ≤ i
      omega
    refine VCs_ok (noPf_ok X0) (ids := []) (S := withS) rfl (Q := fun _ _ => False) (R := fun c => c = withT 0 l k a b key val (lowL (l.take (i + 1)) key) (slN 11 (lowL (l.take (i + 1)) key).length) (.int .i64 (i + 1 : Nat)) junk) (fun v H h => h.elim) (fun c h => by rw [h]; exact ih (i + 1) (by omega) (by omega)) 200 _ ?_
    rw [vc_with1]
    have hstep := take_filter_succ hlt (fun x => Op.bytesLess (ByteArray.toList x.1) (ByteArray.toList key))
    refine bif_decide (fun h => ?_) (fun h => absurd (show (i : Int) < Int.ofNat l.length by simpa using hlt) h)
    refine bif_true (ca hlt) (bif_true (cb hlt) ?_)
    rw [getD_at hlt, succ_wrap (by omega), List.drop_zero, List.take_length]
    refine bif_both (fun h => bif_true (ca hlt) (bif_true (cb hlt) (bif_true (room (big32 (by omega)) rfl) ?_))) (fun h => ?_)
    · have e : lowL (l.take (i + 1)) key = lowL (l.take i) key ++ [l[i]] := by
        unfold lowL; rw [hstep]; show _ ++ (bif Op.bytesLess (ByteArray.toList l[i].1) (ByteArray.toList key) then _ else _) = _; rw [h]; rfl
      rw [e, List.length_append (bs := [l[i]])]
      unfold slN
      rw [← capL]; rfl
    · have e : lowL (l.take (i + 1)) key = lowL (l.take i) key := by
        unfold lowL; rw [hstep]; show _ ++ (bif Op.bytesLess (ByteArray.toList l[i].1) (ByteArray.toList key) then _ else _) = _; rw [h]; exact List.append_nil _
      rw [e]
      unfold slN
      rw [← capL]
noncomputable def withG (args : List Value) (objs : List IObj) : GT :=
  match args, objs with
  | [.slice (some ⟨9, 0, some 0⟩) n c, .agg ⟨[.int .i64 k, .int .i64 _, .int .i64 _, .string key, .string val]⟩], [.vec [.str, .str] l _] => .ask ((n = l.length ∧ c = capU) ∧ l.length < 400000) (.ret ⟨.slice (some ⟨10, 0, some 0⟩) (withL l k key val).length capU, [], [.vec kSS (withL l k key val) false]⟩)
  | _, _ => .fail
theorem iok_with : IOk Tryz.prog tab42 f_drumlinlaw42_with (footF tab42 9 [] withG) := by
  refine iok_footD (AllOk.nil _ _) (by kernel_rfl) (n := 62) (by kernel_rfl) (by kernel_rfl) fun argsc objs x hx hro => ?_
  unfold withG at hx
  split at hx
  · rename_i n c k a b key val l ro
    simp only [GT.run] at hx
    split at hx
    · rename_i hok
      obtain ⟨⟨rfl, rfl⟩, hs⟩ := hok
      cases hx
      refine ⟨by simp, ?_⟩
      have hE : EndsN X0 10 f_drumlinlaw42_with (WithE (withL l k key val)) (st f_drumlinlaw42_with 62 [sl9 l.length, opV k a b key val] (hR l)) := by
        refine VCs_ok (noPf_ok X0) (ids := []) (S := withS) rfl (Q := fun _ _ => False) (R := fun c => c = with0 0 l k a b key val (.slice none 0 0) (.int .i64 0) junk) (fun v H h => h.elim) (fun c h => ?_) 100 _ ?_
        · rw [h]
          refine ReachN.fuzz 5 0 kSS (by rfl) (by rfl) (show look _ 0 = .slice (some ⟨9, 0, some 0⟩) l.length capU from rfl) (by decide) ?_
          exact with_loop1 l k a b key val hs l.length 0 (by omega) (by omega)
        · rw [vc_with0]
      refine hE.toD.mono fun v H h => ?_
      obtain ⟨rfl, h1⟩ := h
      exact tm_new (m := 1) (b := 11) (fun j o => by simp) (by omega) rfl rfl h1
    · cases hx
  · cases hx
end Go.Ideal

--CASTS
set_option maxRecDepth 1000000
namespace Go.Ideal
open Go.Proofs
noncomputable def mRootA (m : MSt) (b n x : Nat) : IObj := .cells (mCells m b n (.slice (some ⟨x, 0, some 0⟩) m.ups.length capU)) 0 false
noncomputable def hAll (m : MSt) (l : List (EK.C kSS)) : IHeap := putL ⟨.leaf, 9⟩ [mRootA m 10 11 12, tbP m.base, tblC 13 l.length, .vec kUp m.ups false, .vec kSS l false]
noncomputable def hAllN (m : MSt) : IHeap := putL ⟨.leaf, 9⟩ [mRootA m 10 11 12, tbP m.base, .cells [.bool true, .slice none 0 0] 0 false, .vec kUp m.ups false]
noncomputable def alC (m : MSt) (l : List (EK.C kSS)) (i : Int) (x y : Value) (H : IHeap → IHeap) : Cfg :=
  ⟨⟨f_ordmap_Map_since, mkT [(2, .func (.yield 12) ⟨[]⟩ ⟨[]⟩), (11, .slice (some ⟨10, 0, some 0⟩) l.length capU), (12, .int .i64 l.length), (13, .int .i64 i)], 25, [.code (pcOf Tryz.prog f_ordmap_Map_since [1, 0, 0]), .inLoop (pcOf Tryz.prog f_ordmap_Map_since [1, 0, 0]), .inBlock 0], [], false, .normal, none⟩,
    [⟨f_ordmap_Map_All_c1, mkT [], 6, [regOf (pcOf Tryz.prog f_ordmap_Map_All_c1 []) 2], [], false, .normal, none⟩,
     ⟨f_model_Model_All_c1, mkT [(2, ptb 13)], 20, [.inRangeFunc 12, .inBlock 0], [⟨.collected 11, ⟨[]⟩⟩], false, .normal, none⟩,
     ⟨f_drumlinlaw42_all, mkT [(4, ptb 17), (5, ptb 16)], 23, [.inRangeFunc 15, .inBlock 0, .code (pcOf Tryz.prog f_drumlinlaw42_all [1, 1, 1])], [⟨.collected 14, ⟨[]⟩⟩], false, .normal, none⟩],
    H (putL ⟨.leaf, 9⟩ [mRootA m 18 19 20, .vec kSS l false, .deferred (some []),
      .loop ⟨.ready, none, f_model_Model_All_c1, mkT [(2, ptb 13)], 20, #[13, 14], pcOf Tryz.prog f_model_Model_All_c1 [1, 1, 1, 0, 0], pcOf Tryz.prog f_model_Model_All_c1 [1, 1, 1, 0, 1], 11⟩,
      .cells [.func (.yield 15) ⟨[]⟩ ⟨[]⟩] 0 false, .deferred (some []),
      .loop ⟨.ready, none, f_drumlinlaw42_all, mkT [(4, ptb 17), (5, ptb 16)], 23, #[11, 12], pcOf Tryz.prog f_drumlinlaw42_all [1, 1, 0, 1, 0, 0], pcOf Tryz.prog f_drumlinlaw42_all [1, 1, 0, 1, 0, 1], 14⟩,
      .cells [y] 0 false, .cells [x] 0 false, tbP m.base, tblC 10 l.length, .vec kUp m.ups false])⟩
noncomputable def al0 (m : MSt) (l : List (EK.C kSS)) : Cfg := alC m l 0 (.slice none 0 0) (.slice none 0 0) id
noncomputable def alT (m : MSt) (l : List (EK.C kSS)) (ks vs : List (EK.C kS)) (n1 n2 : Nat) (i : Int) : Cfg := alC m l i (slN 22 n1) (slN 21 n2) fun H => (H.alloc (.vec kS vs false)).alloc (.vec kS ks false)
def alSt : Stop := ⟨f_ordmap_Map_since, 3, 2, 10, [9], [2, 11, 12, 13]⟩
def alKp : List (FuncId × List Nat) := [(f_ordmap_Map_All_c1, []), (f_model_Model_All_c1, [2]), (f_drumlinlaw42_all, [4, 5])]
theorem vc_all0 (m : MSt) (l : List (EK.C kSS)) (Q : Value → List (Option IObj) → Prop) (R : Cfg → Prop) : VCt X0 noPf f_drumlinlaw42_all [9] alSt alKp Q R 600 (st f_drumlinlaw42_all 23 [p9] (hAll m l)) = (
 (bif decide (0 ≤ Int.ofNat (List.length l)) && Nat.ble (Int.toNat (Int.ofNat (List.length l))) (List.length l) && decide (0 ≤ 0) && Nat.ble 0 (Int.toNat (Int.ofNat (List.length l))) then
  (R (al0 m l))
 else
  False)) := by kernel_rfl
theorem vc_all (m : MSt) (l : List (EK.C kSS)) (ks vs : List (EK.C kS)) (n1 n2 : Nat) (i : Int) (Q : Value → List (Option IObj) → Prop) (R : Cfg → Prop) : VCt X0 noPf f_drumlinlaw42_all [9, 10, 18, 19, 20, 21, 22] alSt alKp Q R 600 (alT m l ks vs n1 n2 i) = (
 (bif decide (i < ((List.length l) : Int)) then
  (bif decide (0 ≤ i) && Nat.blt (Int.toNat i) (List.length l) then
   (bif Nat.blt (0 + Int.toNat i) (List.length l) then
    (bif true && Nat.ble (0 + n1) (List.length ks) && bigOk 16 (n1 + 1) then
     (bif true && Nat.ble (0 + n2) (List.length vs) && bigOk 16 (n2 + 1) then
      (R (alT m l (List.take n1 (List.drop 0 ks) ++ [Prod.fst (List.getD l (0 + Int.toNat i) (EK.dflt kSS))]) (List.take n2 (List.drop 0 vs) ++ [Prod.snd (List.getD l (0 + Int.toNat i) (EK.dflt kSS))]) (n1 + 1) (n2 + 1) (IntKind.wrap IntKind.i64 (i + 1))))
     else
      False)
    else
     False)
   else
    False)
  else
   False)
 else
  (((.slice (some ⟨21, 0, (some 0)⟩) n2 18446744073709551616) : Value) = (.slice (some ⟨21, 0, (some 0)⟩) n2 18446744073709551616)) ∧
  (Q (.tuple ⟨[(.slice (some ⟨22, 0, (some 0)⟩) n1 18446744073709551616), (.slice (some ⟨21, 0, (some 0)⟩) n2 18446744073709551616)]⟩) [some (.cells [(.int IntKind.i64 (List.getD (MSt.cfg m) 0 0)), (.int IntKind.i64 (List.getD (MSt.cfg m) 1 0)), (.int IntKind.i64 (List.getD (MSt.cfg m) 2 0)), (.int IntKind.i64 (List.getD (MSt.cfg m) 3 0)), (.int IntKind.i64 (List.getD (MSt.cfg m) 4 0)), (.int IntKind.i64 (List.getD (MSt.cfg m) 5 0)), (.int IntKind.i64 (List.getD (MSt.cfg m) 6 0)), (.int IntKind.i64 (MSt.limit m)), (.pointer (some ⟨18, 0, none⟩)), (.pointer (some ⟨19, 0, none⟩)), (.int IntKind.i64 (MSt.cost m)), (.slice (some ⟨20, 0, (some 0)⟩) (List.length (MSt.ups m)) 18446744073709551616), (.pointer none), (.int IntKind.i64 (MSt.state m)), (.bool (MSt.planned m))] 0 false), some (.vec kSS l false), some (.abs (Abs.pack (Pk.table (MSt.base m))) false), some (.cells [(.bool true), (.slice (some ⟨10, 0, (some 0)⟩) (List.length l) 18446744073709551616)] 0 false), some (.vec kUp (MSt.ups m) false), some (.vec kS vs false), some (.vec kS ks false), some (.vec kS ks false), some (.vec kS vs false)]))) := by kernel_rfl
theorem vc_allN (m : MSt) (Q : Value → List (Option IObj) → Prop) : VCp X0 noPf f_drumlinlaw42_all [9, 10, 11, 12] Q 600 (st f_drumlinlaw42_all 23 [p9] (hAllN m)) = (
 (((.slice none 0 0) : Value) = (.slice none 0 0)) ∧
 (Q (.tuple ⟨[(.slice none 0 0), (.slice none 0 0)]⟩) [some (.cells [(.int IntKind.i64 (List.getD (MSt.cfg m) 0 0)), (.int IntKind.i64 (List.getD (MSt.cfg m) 1 0)), (.int IntKind.i64 (List.getD (MSt.cfg m) 2 0)), (.int IntKind.i64 (List.getD (MSt.cfg m) 3 0)), (.int IntKind.i64 (List.getD (MSt.cfg m) 4 0)), (.int IntKind.i64 (List.getD (MSt.cfg m) 5 0)), (.int IntKind.i64 (List.getD (MSt.cfg m) 6 0)), (.int IntKind.i64 (MSt.limit m)), (.pointer (some ⟨10, 0, none⟩)), (.pointer (some ⟨11, 0, none⟩)), (.int IntKind.i64 (MSt.cost m)), (.slice (some ⟨12, 0, (some 0)⟩) (List.length (MSt.ups m)) 18446744073709551616), (.pointer none), (.int IntKind.i64 (MSt.state m)), (.bool (MSt.planned m))] 0 false), some (.abs (Abs.pack (Pk.table (MSt.base m))) false), some (.cells [(.bool true), (.slice none 0 0)] 0 false), some (.vec kUp (MSt.ups m) false)])) := by kernel_rfl
end Go.Ideal

namespace Go.Ideal
theorem ReachN.fuzzCell {X : Ctx} {N : Nat} {Φ : Cfg → Prop} {fn : FuncId} {t : Tr Value} {n : Nat} {todo : List IItem} {ds : List Deferred} {r : Bool} {kd : CallKind} {rd : Option Nat} {cs : List IFrame} {H : IHeap} (b j : Nat) (k : EK) (pre post : List Value) {e : Nat} {ro : Bool} {b' o m cap : Nat} {s : Option Nat}
    (hd : noDreg todo = true) (hds : (cs.all fun f => noDreg f.todo) = true) (hj : look t j = .slice (some ⟨b', o, s⟩) m cap) (hb : H.get b = some (.cells (pre ++ .slice none 0 0 :: post) e ro)) (hk : k.length ≠ 0)
    (hr : ReachN X N ⟨⟨fn, t, n, todo, ds, r, kd, rd⟩, cs, (H.alloc (.vec k [] false)).put b (.cells (pre ++ .slice (some ⟨H.next, 0, some 0⟩) 0 capU :: post) e ro)⟩ Φ) : ReachN X N ⟨⟨fn, t, n, todo, ds, r, kd, rd⟩, cs, H⟩ Φ := by
  intro base W0 hb0 hok hplan cs0 μ fr cs' W hm
  obtain ⟨hH, hlaid, g, gs, hfr, hcs, hnd⟩ := hm
  cases hfr with
  | plain fn t n tm todo todo' ds ds' r kd rd rd' ht hi2 hd2 hr2 =>
    have hj2 := ht.2 j
    rw [hj] at hj2
    obtain ⟨T, hT⟩ := slice_dom hj2
    obtain ⟨h1, h2⟩ := hH.voidNew hT hk false
    have hlt : b < H.next := hH.lt hb
    have hb3 : (H.alloc (.vec k [] false)).get b = some (.cells (pre ++ .slice none 0 0 :: post) e ro) := by
      rw [IHeap.get_alloc, if_neg (by omega)]; exact hb
    have h3 := h1.swap (o1 := .cells (pre ++ .slice (some ⟨H.next, 0, some 0⟩) 0 capU :: post) e ro) hb3 (fun T' o' _ ho => by
      cases ho with
      | cells _ _ _ c t lo hi he hc hr hf =>
        refine .cells T' _ e ro c t lo hi he ?_ hr hf
        have hc2 := lrel_repl (a1 := .slice (some ⟨H.next, 0, some 0⟩) 0 capU) (Inj.le_refl _) (fun v' hv => by
          cases hv
          exact .vnil _ 0 capU _ none (Inj.ext_same _ _ _) (.inr ⟨Nat.le_refl _, Nat.sub_self _⟩)) pre _ hc
        have e1 : (pre ++ Value.slice none 0 0 :: post).length = (pre ++ Value.slice (some ⟨H.next, 0, some 0⟩) 0 capU :: post).length := by simp
        rw [← e1]; exact hc2) rfl rfl rfl (fun _ _ hv => hv)
    have hcs2 := frs_thin (ks := []) (H' := (H.alloc (.vec k [] false)).put b (.cells (pre ++ .slice (some ⟨H.next, 0, some 0⟩) 0 capU :: post) e ro)) (hcs.mono (h2.keeps _)) hds
    have e : cs.map (thinFr []) = cs := by
      refine (List.map_congr_left fun f _ => ?_).trans (List.map_id _)
      cases f; rfl
    rw [e] at hcs2
    exact hr base W0 hb0 hok hplan cs0 _ _ cs' W ⟨h3, hlaid.mono h2.le, [], [], .plain fn t n tm todo todo' ds ds' r kd rd rd' (ht.mono h2.le) (hi2.mono h2.le) (hd2.mono h2.le) (hr2.mono h2.le), hcs2, by simp⟩
  | drawn fn t n tm ops plan idx D G k k' ds ds' kd rd rd' hD hk2 hd2 hr2 => cases hd
section
variable {X : Ctx} {N : Nat} {D : Nat → Prop} {f : FuncId} {Q Q' : Value → IHeap → Prop}
theorem EndsD.openedR {c : Cfg} {b : Nat} {rs : List Nat} {s : Pk} {ro : Bool} (hD : ∀ x ∈ rs, D x) (hreach : b ∈ reach2 c.H 0 200 rs []) (hb : c.H.get b = some (.abs (.pack s) ro)) (hp : ∀ ops p k, c.fr.todo ≠ .dreg ops p :: k)
    (h : ∀ objs, pkReps s objs → ∃ H', Opened c.H b ro objs H' (pkExt s) ∧ EndsD X N D f Q ⟨c.fr, c.cs, H'⟩) : EndsD X N D f Q c := by
  intro base W0 hb0 hDm hok hplan cs0 μ fr cs W hm
  obtain ⟨hH, hlaid, g, gs, hfr, hcs, hnd⟩ := hm
  have hr2 := reach2_ok hH (N := 0) 200 rs [] (fun b hb => by
    obtain ⟨T, hT⟩ := hDm b (hD b hb)
    exact ⟨T, hH.le b T hT⟩) ⟨List.nodup_nil, fun b hb => by cases hb⟩
  obtain ⟨T, hT⟩ := (hr2.2 b hreach).2
  obtain ⟨objs, hr, ho⟩ := hH.opened hb hT
  obtain ⟨H', hO, hrun⟩ := h objs hr
  obtain ⟨μ', hH', hE⟩ := ho H' hO
  refine hrun base W0 hb0 hDm hok hplan cs0 μ' fr cs W ⟨hH', hlaid.mono hE.le, g, gs, ?_, hcs.mono (hE.keeps _), hnd⟩
  obtain ⟨f0, cs1, H1⟩ := c
  cases hfr with
  | plain fn t n tm todo todo' ds ds' r kd rd rd' ht hi hd hr => exact .plain fn t n tm todo todo' ds ds' r kd rd rd' (ht.mono hE.le) (hi.mono hE.le) (hd.mono hE.le) (hr.mono hE.le)
  | drawn fn t n tm ops plan idx D G k k' ds ds' kd rd rd' hD hk hd hr => exact absurd rfl (hp ops plan k)
end
theorem shut1R {D : Nat → Prop} {v : Value} {H H2 : IHeap} {s : Pk} {b : Nat} {rs : List Nat} {o o1 : IObj} (hr : pkReps s [o]) (hD : ∀ b ∈ rs, b ∈ refsN 4 v ∨ D b) (hb : b ∈ reach2 H 0 200 rs []) (hg : H.get b = some o1) (hro : o1.ro = false) (hp : o1.packs = true) (hren : renO (fun i => [b][i]?) o = some o1)
    (k : ShutsTo D v (shutH s [b] H) H2)
    (hx0 : pkExt s = [] := by rfl) (hroot : ∀ T, ¬ o.void T := by intro _; exact id) : ShutsTo D v H H2 := by
  refine .step s [o] [b] rs hr (by simp) rfl (by simp) hD (fun x hx => by simp at hx; rw [hx]; exact hb) (fun i x q hx hq => ?_) (fun q T hq => by cases hq; exact hroot T) k
  cases i with
  | zero => cases hx; cases hq; exact ⟨o1, hg, hro, hp, by rw [hx0, gren_nil]; exact hren⟩
  | succ i => cases i <;> cases hx
theorem shut2R {D : Nat → Prop} {v : Value} {H H2 : IHeap} {s : Pk} {b n : Nat} {rs : List Nat} {o o1 p p1 : IObj} (hr : pkReps s [o, p]) (hD : ∀ b ∈ rs, b ∈ refsN 4 v ∨ D b) (hb : b ∈ reach2 H 0 200 rs []) (hn : n ∈ reach2 H 0 200 rs []) (hne : n ≠ b) (hg : H.get b = some o1) (hro : o1.ro = false) (hp : o1.packs = true) (hren : renO (fun i => [b, n][i]?) o = some o1)
    (hg2 : H.get n = some p1) (hro2 : p1.ro = false) (hp2 : p1.packs = true) (hren2 : renO (fun i => [b, n][i]?) p = some p1) (k : ShutsTo D v (shutH s [b, n] H) H2)
    (hx0 : pkExt s = [] := by rfl) (hroot : ∀ T, ¬ o.void T := by intro _; exact id) : ShutsTo D v H H2 := by
  refine .step s [o, p] [b, n] rs hr (by simp) rfl (by simp [Ne.symm hne]) hD (fun x hx => ?_) (fun i x q hx hq => ?_) (fun q T hq => by cases hq; exact hroot T) k
  · simp at hx
    rcases hx with rfl | rfl
    · exact hb
    · exact hn
  · cases i with
    | zero => cases hx; cases hq; exact ⟨o1, hg, hro, hp, by rw [hx0, gren_nil]; exact hren⟩
    | succ i => cases i with
      | zero => cases hx; cases hq; exact ⟨p1, hg2, hro2, hp2, by rw [hx0, gren_nil]; exact hren2⟩
      | succ i => cases i <;> cases hx
theorem HRel.rowCellX {base : Env} {W0 W : World} {μ : Inj} {H : IHeap} (h : HRel base W0 μ H W) {b n len cap e : Nat} {k : EK} {l : List (EK.C k)} {ro ro2 : Bool} {pre post : List Value}
    (hb : H.get b = some (.cells (pre ++ .slice (some ⟨n, 0, none⟩) len cap :: post) e ro)) (hn : H.get n = some (.vec k l ro2)) (h0 : 0 < cap) (hl : len ≤ cap) (hlen : cap ≤ l.length) (hcap : cap ≤ 9223372036854775807) (hk0 : 0 < k.length := by decide) :
    HRel base W0 μ (H.put b (.cells (pre ++ .slice (some ⟨n, 0, some 0⟩) len capU :: post) e ro)) W := by
  refine h.swap hb (fun T o' _ ho => ?_) rfl rfl rfl (fun _ _ hv => hv)
  cases ho with
  | cells _ _ _ c t lo hi he hc hr hf =>
    refine .cells T _ e ro c t lo hi he ?_ hr hf
    have hc2 := lrel_repl (a1 := .slice (some ⟨n, 0, some 0⟩) len capU) (Inj.le_refl _) (fun v' hv => by
      cases hv with
      | slice _ _ _ _ cap' o' T' hm hcr ho =>
        have hcu : cap < capU := by unfold capU; omega
        have hcap' : cap' = cap := by
          rcases hcr with ⟨_, h2⟩ | ⟨h2, _⟩
          · exact h2
          · omega
        subst hcap'
        have hel := h.elem hn hm
        obtain ⟨q, hq, hor⟩ := h.obj n _ hn T' hm
        have hrow : l.length * k.length ≤ T'.r := by
          cases hor with
          | vec _ _ _ _ hcs => cases hcs with
            | cells _ _ _ c2 t2 lo2 hi2 he2 hc2 hr2 hf2 =>
              have := hc2.length
              have e2 : c2.toList.length = T'.d + T'.r := by rw [Array.length_toList]; exact hr2
              have e3 : (encL k l).length = l.length * k.length := encL_length _ _
              rw [List.length_take, List.length_drop, e2, e3] at this
              omega
          | vec0 _ _ _ _ _ _ => simp at hlen; omega
        have hmul : cap' * k.length ≤ T'.r := Nat.le_trans (Nat.mul_le_mul_right _ hlen) hrow
        have hpos : 0 < cap' * k.length := Nat.mul_pos h0 hk0
        refine .vslice n 0 len capU cap' o' T' hm (.inr ⟨Nat.le_refl _, by omega, hl, by rw [hel]; omega, .inr hcap⟩) ?_ (by omega)
        rcases ho with ho | ho
        · exact .inl (by omega)
        · exact .inr ho) pre _ hc
    have e1 : (pre ++ Value.slice (some ⟨n, 0, none⟩) len cap :: post).length = (pre ++ Value.slice (some ⟨n, 0, some 0⟩) len capU :: post).length := by simp
    rw [← e1]; exact hc2
theorem EndsN.lower {X : Ctx} {N N' : Nat} {f : FuncId} {Q : Value → IHeap → Prop} {c : Cfg} (hle : N ≤ N') (h : EndsN X N' f Q c) : EndsN X N f Q c :=
  fun base W0 hb => h base W0 fun b T e => Nat.lt_of_lt_of_le (hb b T e) hle
end Go.Ideal

set_option maxRecDepth 1000000
namespace Go.Ideal
open Go.Proofs
abbrev AllQ (m : MSt) (l : List (EK.C kSS)) (v : Value) (H : IHeap) : Prop := v = .tuple ⟨[slN 22 l.length, slN 21 l.length]⟩ ∧ H.get 9 = some (mRootA m 18 19 20) ∧ H.get 10 = some (.vec kSS l false) ∧ H.get 18 = some (tbP m.base) ∧ H.get 19 = some (tblC 10 l.length) ∧ H.get 20 = some (.vec kUp m.ups false) ∧ H.get 21 = some (.vec kS (vlsOf l) false) ∧ H.get 22 = some (.vec kS (kysOf l) false)
theorem all_loop (m : MSt) (l : List (EK.C kSS)) (hs : l.length < 1000000) : ∀ (q i : Nat), l.length - i = q → i ≤ l.length →
    EndsN X0 10 f_drumlinlaw42_all (AllQ m l) (alT m l (kysOf (l.take i)) (vlsOf (l.take i)) i i i) := by
  intro q
  induction q with
  | zero =>
    intro i hm hi
    have he : i = l.length := by omega
    subst he
    refine VCt_ok (noPf_ok X0) (ids := [9, 10, 18, 19, 20, 21, 22]) (S := alSt) (ks := alKp) (by kernel_rfl) (Q := fun v os => v = .tuple ⟨[slN 22 l.length, slN 21 l.length]⟩ ∧ ∃ a b, os = [some (mRootA m 18 19 20), some (.vec kSS l false), some (tbP m.base), some (tblC 10 l.length), some (.vec kUp m.ups false), some (.vec kS (vlsOf l) false), some (.vec kS (kysOf l) false), a, b]) (R := fun _ => False) (fun v H h => ?_) (fun c h => h.elim) 600 _ ?_
    · obtain ⟨rfl, a, b, h⟩ := h
      have h : [H.get 9, H.get 10, H.get 18, H.get 19, H.get 20, H.get 21, H.get 22, H.get 22, H.get 21] = _ := h
      simp only [List.cons.injEq, and_true] at h
      obtain ⟨g1, g2, g3, g4, g5, g6, g7, _⟩ := h
      exact ⟨rfl, g1, g2, g3, g4, g5, g6, g7⟩
    · rw [vc_all, List.take_length]
      refine bif_decide (fun h => ?_) (fun _ => ⟨rfl, by unfold slN; rw [capL], _, _, by unfold mRootA tblC capU; rfl⟩)
      exfalso; have : (l.length : Int) < l.length := h; omega
  | succ q ih =>
    intro i hm hi
    have hlt : i < l.length := by omega
    refine VCt_ok (noPf_ok X0) (ids := [9, 10, 18, 19, 20, 21, 22]) (S := alSt) (ks := alKp) (by kernel_rfl) (Q := fun _ _ => False) (R := fun c => c = alT m l (kysOf (l.take (i + 1))) (vlsOf (l.take (i + 1))) (i + 1) (i + 1) (i + 1 : Nat)) (fun v H h => h.elim) (fun c h => by rw [h]; exact ih (i + 1) (by omega) (by omega)) 600 _ ?_
    rw [vc_all]
    refine bif_decide (fun h => ?_) (fun h => absurd (show (i : Int) < (l.length : Int) by omega) h)
    have e1 : (kysOf (l.take i)).length = i := by unfold kysOf; rw [List.length_map, List.length_take]; omega
    have e2 : (vlsOf (l.take i)).length = i := by unfold vlsOf; rw [List.length_map, List.length_take]; omega
    refine bif_true (ca hlt) (bif_true (cb hlt) (bif_true (room (big16 (by omega)) e1.symm) (bif_true (room (big16 (by omega)) e2.symm) ?_)))
    rw [getD_at hlt, succ_wrap (by omega), List.drop_zero, List.drop_zero, List.take_of_length_le (l := kysOf (l.take i)) (by omega), List.take_of_length_le (l := vlsOf (l.take i)) (by omega)]
    rw [show kysOf (l.take i) ++ [(l[i]).1] = kysOf (l.take (i + 1)) from take_map_succ hlt (fun x => x.1), show vlsOf (l.take i) ++ [(l[i]).2] = vlsOf (l.take (i + 1)) from take_map_succ hlt (fun x => x.2)]
theorem all_first (m : MSt) (l : List (EK.C kSS)) (hs : l.length < 1000000) : EndsN X0 10 f_drumlinlaw42_all (AllQ m l) (st f_drumlinlaw42_all 23 [p9] (hAll m l)) := by
  refine VCt_ok (noPf_ok X0) (ids := [9]) (S := alSt) (ks := alKp) (by kernel_rfl) (Q := fun _ _ => False) (R := fun c => c = al0 m l) (fun v H h => h.elim) (fun c h => ?_) 600 _ ?_
  · rw [h]
    have hn : (al0 m l).H.next = 21 := by kernel_rfl
    refine ReachN.fuzzCell 16 11 kS [] [] (by rfl) (by rfl) (show look _ 11 = .slice (some ⟨10, 0, some 0⟩) l.length capU from rfl) (show (al0 m l).H.get 16 = some (.cells [.slice none 0 0] 0 false) by kernel_rfl) (by decide) ?_
    refine ReachN.fuzzCell 17 11 kS [] [] (by rfl) (by rfl) (show look _ 11 = .slice (some ⟨10, 0, some 0⟩) l.length capU from rfl) (ro := false) (e := 0) (by kernel_rfl) (by decide) ?_
    have := all_loop m l hs l.length 0 (by omega) (by omega)
    rw [List.take_zero] at this
    refine Eq.mp (congrArg (EndsN X0 10 f_drumlinlaw42_all (AllQ m l)) (?_ : alT m l (kysOf []) (vlsOf []) 0 0 (0 : Nat) = _)) this
    kernel_rfl
  · rw [vc_all0]
    exact bif_true (by simp) rfl
noncomputable def allG (args : List Value) (objs : List IObj) : GT :=
  match args, objs with
  | [.pointer (some ⟨9, 0, none⟩)], [.abs (.pack (.model m)) _] => .ask (m.now.length < 1000000) (.ret ⟨.tuple ⟨[.slice (some ⟨10, 0, some 0⟩) m.now.length capU, .slice (some ⟨11, 0, some 0⟩) m.now.length capU]⟩, [some (.abs (.pack (.model m)) false)], [.vec kS (kysOf m.now) false, .vec kS (vlsOf m.now) false]⟩)
  | _, _ => .fail
def AllM (m : MSt) (v : Value) (H : IHeap) : Prop := ∃ b n x k1 k2, v = .tuple ⟨[slN k1 m.now.length, slN k2 m.now.length]⟩ ∧ MdlAt 9 b n x H m ∧ k1 ≠ k2 ∧ k1 ∉ 9 :: [b, n, x] ∧ k2 ∉ 9 :: [b, n, x] ∧ 10 ≤ k1 ∧ 10 ≤ k2 ∧ H.get k1 = some (.vec kS (kysOf m.now) false) ∧ H.get k2 = some (.vec kS (vlsOf m.now) false)
theorem hall_openL (m : MSt) : ((putL ⟨.leaf, 9⟩ (mdU m)).put 11 (tblC 13 m.now.length)).alloc (.vec kSS m.now false) = hAll m m.now := by kernel_rfl
theorem hall_openN (m : MSt) : (putL ⟨.leaf, 9⟩ (mdU m)).put 11 (.cells [.bool true, .slice none 0 0] 0 false) = hAllN m := by kernel_rfl
theorem hall_reach (m : MSt) : reach2 (putL ⟨.leaf, 9⟩ (mdU m)) 0 200 [9] [] = [9, 10, 11, 12] := by kernel_rfl
theorem mdU_top (m : MSt) : ∀ x, 13 ≤ x → (putL ⟨.leaf, 9⟩ (mdU m)).get x = none := by
  intro x hx
  rw [putL_get]
  show (if x < 9 then _ else _) = _
  rw [if_neg (by omega), List.getElem?_eq_none (by simp [mdU]; omega)]
  rfl
theorem iok_all : IOk Tryz.prog tab42 f_drumlinlaw42_all (footF tab42 9 [true] allG) := by
  refine iok_footD (AllOk.nil _ _) (by kernel_rfl) (n := 23) (by kernel_rfl) (by kernel_rfl) fun argsc objs x hx hro => ?_
  unfold allG at hx
  split at hx
  · rename_i m ro
    simp only [GT.run] at hx
    split at hx
    · rename_i hn
      cases hx
      have hr0 : ro = false := hro 0 _ rfl rfl
      subst hr0
      refine ⟨by simp, ?_⟩
      show EndsD X0 10 (fun b => 9 ≤ b ∧ b < 10) f_drumlinlaw42_all _ (st f_drumlinlaw42_all 23 [p9] (mdl0 m))
      have hD9 : ∀ v : Value, ∀ b ∈ [9], b ∈ refsN 4 v ∨ (9 ≤ b ∧ b < 10) := fun v b hb => by
        rw [List.mem_singleton] at hb; subst hb; exact .inr ⟨Nat.le_refl 9, Nat.lt_succ_self 9⟩
      refine EndsD.shut (Q := AllM m) (openMdl (rest := []) ⟨Nat.le_refl 9, Nat.lt_succ_self 9⟩ ?_) ?_
      · refine EndsD.openedR (b := 11) (s := .table m.now) (ro := false) (rs := [9]) (fun x hx => ?_) ?_ ?_ (fun ops p k h => by cases h) fun objs hr => ?_
        · rw [List.mem_singleton] at hx; subst hx; exact ⟨Nat.le_refl 9, Nat.lt_succ_self 9⟩
        · show 11 ∈ reach2 (putL ⟨.leaf, 9⟩ (mdU m)) 0 200 [9] []
          rw [hall_reach]; simp
        · show (putL ⟨.leaf, 9⟩ (mdU m)).get 11 = _
          kernel_rfl
        generalize hl : m.now = l at hr
        cases hr with
        | tableNil =>
          refine ⟨_, opened1 (H := putL ⟨.leaf, 9⟩ (mdU m)) (b := 11) (ro := false) (o1 := .cells [.bool true, .slice none 0 0] 0 false) (show 11 < 13 by decide) (mdU_top m) rfl, ?_⟩
          rw [hall_openN]
          have hE : EndsN X0 10 f_drumlinlaw42_all (fun v H => v = .tuple ⟨[.slice none 0 0, .slice none 0 0]⟩ ∧ [H.get 9, H.get 10, H.get 11, H.get 12] = [some (mRootA m 10 11 12), some (tbP m.base), some (.cells [.bool true, .slice none 0 0] 0 false), some (.vec kUp m.ups false)]) (st f_drumlinlaw42_all 23 [p9] (hAllN m)) := by
            refine (EndsIn.toN (VCp_ok (noPf_ok X0) (ids := [9, 10, 11, 12]) (Q := fun v os => v = .tuple ⟨[.slice none 0 0, .slice none 0 0]⟩ ∧ os = [some (mRootA m 10 11 12), some (tbP m.base), some (.cells [.bool true, .slice none 0 0] 0 false), some (.vec kUp m.ups false)]) 600 _ ?_)).mono ?_
            · rw [vc_allN]
              exact ⟨rfl, rfl, by unfold mRootA capU; rfl⟩
            · rintro v H ⟨rfl, h⟩
              exact ⟨rfl, h⟩
          refine EndsD.shut (Q := fun v H => ∃ k1 k2, 100 ≤ k1 ∧ 100 ≤ k2 ∧ k1 ≠ k2 ∧ v = .tuple ⟨[slN k1 0, slN k2 0]⟩ ∧ [H.get 9, H.get 10, H.get 11, H.get 12] = [some (mRootA m 10 11 12), some (tbP m.base), some (.cells [.bool true, .slice none 0 0] 0 false), some (.vec kUp m.ups false)] ∧ H.get k1 = some (.vec kS [] false) ∧ H.get k2 = some (.vec kS [] false)) (hE.toD.tell ?_) ?_
          · rintro v H ⟨rfl, h⟩
            have n1 := H.voidName_le
            have n2 := (H.voidNew kS).voidName_le
            have n3 : (H.voidNew kS).voidName ≠ H.voidName := by
              have e1 : (H.voidNew kS).voidName = max (max H.next 100 + 1) 100 := rfl
              have e2 : H.voidName = max H.next 100 := rfl
              omega
            refine ⟨.tuple ⟨[slN H.voidName 0, slN (H.voidNew kS).voidName 0]⟩, (H.voidNew kS).voidNew kS, fun base W0 μ W v' hT hv hH => ?_, _, _, n1, n2, Ne.symm n3, rfl, ?_, ?_, ?_⟩
            · obtain ⟨μ2, a1, a2, a3⟩ := hH.nilVal (k := kS) (hT 9 ⟨Nat.le_refl 9, Nat.lt_succ_self 9⟩)
              obtain ⟨T, hT9⟩ := hT 9 ⟨Nat.le_refl 9, Nat.lt_succ_self 9⟩
              obtain ⟨μ3, b1, b2, b3⟩ := a2.nilVal (k := kS) ⟨T, a1 9 T hT9⟩
              refine ⟨μ3, Inj.le_trans a1 b1, b2, ?_⟩
              cases hv with
              | tuple _ xs' hx ex =>
                refine .tuple _ _ hx fun i hi hi' => ?_
                have hs : xs'.size = 2 := hx.symm
                have e0 := ex 0 (by decide) (by omega)
                have e1 := ex 1 (by decide) (by omega)
                match i, hi, hi' with
                | 0, _, _ =>
                  have e0 : VRel μ (.slice none 0 0) xs'[0] := e0
                  show VRel μ3 (slN H.voidName 0) xs'[0]
                  generalize xs'[0] = w at e0
                  cases e0
                  exact a3.mono b1
                | 1, _, _ =>
                  have e1 : VRel μ (.slice none 0 0) xs'[1] := e1
                  show VRel μ3 (slN (H.voidNew kS).voidName 0) xs'[1]
                  generalize xs'[1] = w at e1
                  cases e1
                  exact b3
            · simp only [List.cons.injEq, and_true] at h ⊢
              obtain ⟨g1, g2, g3, g4⟩ := h
              refine ⟨?_, ?_, ?_, ?_⟩ <;> rw [IHeap.voidNew_get, if_neg (by omega), IHeap.voidNew_get, if_neg (by omega)] <;> assumption
            · rw [IHeap.voidNew_get, if_neg (Ne.symm n3), IHeap.voidNew_get, if_pos rfl]
            · rw [IHeap.voidNew_get, if_pos rfl]
          · rintro v H ⟨k1, k2, n1, n2, n3, rfl, h, g5, g6⟩
            simp only [List.cons.injEq, and_true] at h
            obtain ⟨g1, g2, g3, g4⟩ := h
            have s1 := shutH_ok (s := .table []) (bs := [11]) (H := H) (by simp)
            refine ⟨shutH (.table []) [11] H, shut1R (rs := [9]) (o := .cells [.bool true, .slice none 0 0] 0 false) .tableNil (hD9 _) ?_ g3 rfl rfl rfl (.refl _), 10, 11, 12, k1, k2, by rw [hl]; rfl, ⟨by decide, ?_, ?_, ?_, ?_⟩, n3, ?_, ?_, by omega, by omega, ?_, ?_⟩
            · rw [reach_one g1 rfl]
              show 11 ∈ reach2 H 0 199 [10, 11, 12] [9]
              rw [reach_one g2 rfl]
              show 11 ∈ reach2 H 0 198 [11, 12] [9, 10]
              rw [reach_one g3 rfl]
              exact reach2_seen H 0 _ _ _ 11 (by simp)
            · rw [s1.old 9 (by simp)]; exact g1
            · rw [s1.old 10 (by simp)]; exact g2
            · rw [s1.root 11 rfl, hl]; rfl
            · rw [s1.old 12 (by simp)]; exact g4
            · simp; omega
            · simp; omega
            · rw [s1.old k1 (by simp; omega), hl]; exact g5
            · rw [s1.old k2 (by simp; omega), hl]; exact g6
        | table l =>
          subst hl
          refine ⟨_, opened2 (H := putL ⟨.leaf, 9⟩ (mdU m)) (b := 11) (ro := false) (o1 := tblC 13 m.now.length) (p1 := .vec kSS m.now false) (show 11 < 13 by decide) (mdU_top m) rfl rfl, ?_⟩
          rw [hall_openL]
          refine EndsD.shut (all_first m m.now hn).toD ?_
          rintro v H ⟨rfl, g9, g10, g18, g19, g20, g21, g22⟩
          have s1 := shutH_ok (s := .table m.now) (bs := [19, 10]) (H := H) (by simp)
          have hR : ∀ y, y = 19 ∨ y = 10 → y ∈ reach2 H 0 200 [9] [] := by
            intro y hy
            rw [reach_one g9 rfl]
            show y ∈ reach2 H 0 199 [18, 19, 20] [9]
            rw [reach_one g18 rfl]
            show y ∈ reach2 H 0 198 [19, 20] [9, 18]
            rw [reach_one g19 rfl]
            show y ∈ reach2 H 0 197 [10, 20] [9, 18, 19]
            rw [reach_one g10 rfl]
            exact reach2_seen H 0 _ _ _ y (by rcases hy with rfl | rfl <;> simp)
          refine ⟨shutH (.table m.now) [19, 10] H, shut2R (rs := [9]) (.table m.now) (hD9 _) (hR 19 (.inl rfl)) (hR 10 (.inr rfl)) (by decide) g19 rfl rfl rfl g10 rfl rfl rfl (.refl _), 18, 19, 20, 22, 21, rfl, ⟨by decide, ?_, ?_, ?_, ?_⟩, by decide, by decide, by decide, by decide, by decide, ?_, ?_⟩
          · rw [s1.old 9 (by simp)]; exact g9
          · rw [s1.old 18 (by simp)]; exact g18
          · exact s1.root 19 rfl
          · rw [s1.old 20 (by simp)]; exact g20
          · rw [s1.old 22 (by simp)]; exact g22
          · rw [s1.old 21 (by simp)]; exact g21
      · rintro v H ⟨b, n, x, k1, k2, rfl, hM, hne, h1, h2, hk1, hk2, g1, g2⟩
        obtain ⟨H2, j1, j2, j3⟩ := shutAt (D := fun b => 9 ≤ b ∧ b < 9 + 1) (v := .tuple ⟨[slN k1 m.now.length, slN k2 m.now.length]⟩) (.inr ⟨Nat.le_refl 9, Nat.lt_succ_self 9⟩) hM
        refine ⟨H2, j1, [k1, k2], by simp [hne], fun c hc => by simp at hc; show 10 ≤ c; omega, rfl, rfl, fun j c p hj hp => ?_, fun j o hj hm ho => ?_⟩
        · cases j with
          | zero => cases hj; cases hp; exact ⟨_, rfl, by rw [j3 k1 h1]; exact g1⟩
          | succ j => cases j with
            | zero => cases hj; cases hp; exact ⟨_, rfl, by rw [j3 k2 h2]; exact g2⟩
            | succ j => cases j <;> cases hj
        · cases j with
          | zero => cases ho; exact ⟨_, rfl, j2⟩
          | succ j => exact absurd hj (by show ¬ (j + 1 < 1); omega)
    · cases hx
  · cases hx
end Go.Ideal

set_option maxRecDepth 1000000
namespace Go.Ideal
open Go.Proofs
theorem bytesLess_tri : ∀ a b : List UInt8, Op.bytesLess a b = true ∨ a = b ∨ Op.bytesLess b a = true := by
  intro a
  induction a with
  | nil => intro b; cases b with
    | nil => exact .inr (.inl rfl)
    | cons y b => exact .inl rfl
  | cons x a ih =>
    intro b
    cases b with
    | nil => exact .inr (.inr rfl)
    | cons y b =>
      simp only [Op.bytesLess, Bool.or_eq_true, Bool.and_eq_true, decide_eq_true_eq, beq_iff_eq]
      rcases (show x < y ∨ x = y ∨ y < x by rcases Nat.lt_trichotomy x.toNat y.toNat with h | h | h; exact .inl (UInt8.lt_iff_toNat_lt.2 h); exact .inr (.inl (UInt8.toNat_inj.1 h)); exact .inr (.inr (UInt8.lt_iff_toNat_lt.2 h))) with h | h | h
      · exact .inl (.inl h)
      · subst h
        rcases ih b with h | h | h
        · exact .inl (.inr ⟨rfl, h⟩)
        · exact .inr (.inl (by rw [h]))
        · exact .inr (.inr (.inr ⟨rfl, h⟩))
      · exact .inr (.inr (.inl h))
theorem bytes_eq {a b : ByteArray} (h : a.toList = b.toList) : a = b := by
  rw [ByteArray.toList_eq, ByteArray.toList_eq] at h
  obtain ⟨⟨a⟩⟩ := a
  obtain ⟨⟨b⟩⟩ := b
  simp only at h
  rw [h]
theorem kLt_irrefl (a : ByteArray) : kLt a a = false := bytesLess_irrefl _
theorem kLt_asymm {a b : ByteArray} (h : kLt a b = true) : kLt b a = false := by
  cases h2 : kLt b a
  · rfl
  · have := kLt_trans h h2
    rw [kLt_irrefl] at this; cases this
theorem kLt_tri (a b : ByteArray) : kLt a b = true ∨ a = b ∨ kLt b a = true := by
  rcases bytesLess_tri a.toList b.toList with h | h | h
  · exact .inl h
  · exact .inr (.inl (bytes_eq h))
  · exact .inr (.inr h)
theorem kLt_ne {a b : ByteArray} (h : kLt a b = true) : (a.toList == b.toList) = false := by
  cases h2 : a.toList == b.toList
  · rfl
  · have := bytes_eq (eq_of_beq h2)
    subst this
    rw [kLt_irrefl] at h; cases h
theorem rankK_cons (x : EK.C kSS) (l : List (EK.C kSS)) (k : ByteArray) : rankK (x :: l) k = if kLt x.1 k then rankK l k + 1 else 0 := by
  unfold rankK
  rw [List.takeWhile_cons]
  split <;> rfl
inductive Parts (k : ByteArray) : List (EK.C kSS) → Prop where
  | has (a b : List (EK.C kSS)) (v : ByteArray) (ha : ∀ x ∈ a, kLt x.1 k = true) (hb : ∀ x ∈ b, kLt k x.1 = true) (hr : rankK (a ++ (k, v) :: b) k = a.length) : Parts k (a ++ (k, v) :: b)
  | none (a b : List (EK.C kSS)) (ha : ∀ x ∈ a, kLt x.1 k = true) (hb : ∀ x ∈ b, kLt k x.1 = true) (hr : rankK (a ++ b) k = a.length) : Parts k (a ++ b)
theorem parts (k : ByteArray) : ∀ l : List (EK.C kSS), sortedK l → Parts k l := by
  intro l
  induction l with
  | nil => intro _; exact .none [] [] (fun x hx => by cases hx) (fun x hx => by cases hx) rfl
  | cons x l ih =>
    intro hs
    have hs' := List.pairwise_cons.1 hs
    cases hx : kLt x.1 k
    · rcases kLt_tri x.1 k with h | h | h
      · rw [hx] at h; cases h
      · obtain ⟨x1, x2⟩ := x
        simp only at h
        subst h
        exact .has [] l x2 (fun x hx => by cases hx) (fun y hy => hs'.1 y hy) (by rw [List.nil_append, rankK_cons, if_neg (by rw [hx]; simp)]; rfl)
      · refine .none [] (x :: l) (fun x hx => by cases hx) (fun y hy => ?_) (by rw [List.nil_append, rankK_cons, if_neg (by rw [hx]; simp)]; rfl)
        rcases List.mem_cons.1 hy with rfl | hy
        · exact h
        · exact kLt_trans h (hs'.1 y hy)
    · cases ih hs'.2 with
      | has a b v ha hb hr =>
        refine .has (x :: a) b v (fun y hy => ?_) hb (by rw [List.cons_append, rankK_cons, if_pos hx, hr]; rfl)
        rcases List.mem_cons.1 hy with rfl | hy
        · exact hx
        · exact ha y hy
      | none a b ha hb hr =>
        refine .none (x :: a) b (fun y hy => ?_) hb (by rw [List.cons_append, rankK_cons, if_pos hx, hr]; rfl)
        rcases List.mem_cons.1 hy with rfl | hy
        · exact hx
        · exact ha y hy
theorem getD_mid (a b : List (EK.C kSS)) (x : EK.C kSS) : (a ++ x :: b).getD a.length (EK.dflt kSS) = x := by
  rw [List.getD_eq_getElem?_getD, List.getElem?_append_right (Nat.le_refl _), Nat.sub_self]; rfl
theorem low_parts {k : ByteArray} {a b : List (EK.C kSS)} (ha : ∀ x ∈ a, kLt x.1 k = true) (hb : ∀ x ∈ b, kLt k x.1 = true) : lowL (a ++ b) k = a ∧ highL (a ++ b) k = b := by
  have e1 : lowL a k = a := List.filter_eq_self.2 fun x hx => ha x hx
  have e2 : lowL b k = [] := List.filter_eq_nil_iff.2 fun x hx => by
    have := kLt_asymm (hb x hx)
    unfold kLt at this; rw [this]; simp
  have e3 : highL a k = [] := List.filter_eq_nil_iff.2 fun x hx => by
    have h1 := ha x hx
    unfold kLt at h1
    unfold gtK; rw [h1]; simp
  have e4 : highL b k = b := List.filter_eq_self.2 fun x hx => by
    have h1 := kLt_asymm (hb x hx)
    have h2 := kLt_ne (hb x hx)
    unfold kLt at h1
    have h3 : (ByteArray.toList x.1 == ByteArray.toList k) = false := by
      cases h : ByteArray.toList x.1 == ByteArray.toList k
      · rfl
      · rw [beq_iff_eq] at h; rw [h] at h2; simp at h2
    unfold gtK; rw [h1, h3]; rfl
  constructor
  · unfold lowL at *; rw [List.filter_append, e1, e2, List.append_nil]
  · unfold highL at *; rw [List.filter_append, e3, e4, List.nil_append]
theorem high_key (k v : ByteArray) : gtK ((k, v) : EK.C kSS).1 k = false := by
  unfold gtK; simp
theorem low_has {k v : ByteArray} {a b : List (EK.C kSS)} (ha : ∀ x ∈ a, kLt x.1 k = true) (hb : ∀ x ∈ b, kLt k x.1 = true) : lowL (a ++ (k, v) :: b) k = a ∧ highL (a ++ (k, v) :: b) k = b := by
  obtain ⟨h1, h2⟩ := low_parts ha hb
  have hk : kLt k k = false := kLt_irrefl k
  unfold kLt at hk
  constructor
  · conv => rhs; rw [← h1]
    unfold lowL
    rw [List.filter_append, List.filter_append, List.filter_cons_of_neg (by show ¬ Op.bytesLess (ByteArray.toList k) (ByteArray.toList k) = true; rw [hk]; simp)]
  · conv => rhs; rw [← h2]
    unfold highL
    rw [List.filter_append, List.filter_append, List.filter_cons_of_neg (by rw [high_key k v]; simp)]
theorem atK_hs {k v : ByteArray} {a b : List (EK.C kSS)} (hr : rankK (a ++ (k, v) :: b) k = a.length) : atK (a ++ (k, v) :: b) k = some v := by
  unfold atK
  rw [hr, getD_mid, if_pos ⟨by simp, by simp⟩]
theorem atK_non {k : ByteArray} {a b : List (EK.C kSS)} (hb : ∀ x ∈ b, kLt k x.1 = true) (hr : rankK (a ++ b) k = a.length) : atK (a ++ b) k = none := by
  unfold atK
  rw [hr, if_neg]
  rintro ⟨h1, h2⟩
  cases b with
  | nil => simp at h1
  | cons y b =>
    rw [getD_mid] at h2
    have := kLt_ne (hb y (by simp))
    rw [beq_iff_eq] at h2
    rw [h2] at this
    simp at this
theorem valK_atK {l : List (EK.C kSS)} (hs : sortedK l) (k : ByteArray) : valK l k = atK l k := by
  have hf : ∀ a b : List (EK.C kSS), (∀ x ∈ a, kLt x.1 k = true) → (a ++ b).find? (fun x => ByteArray.toList x.1 == ByteArray.toList k) = b.find? (fun x => ByteArray.toList x.1 == ByteArray.toList k) := by
    intro a b ha
    rw [List.find?_append, List.find?_eq_none.2 (fun x hx => by rw [kLt_ne (ha x hx)]; simp)]; rfl
  cases parts k l hs with
  | has a b v ha hb hr =>
    rw [atK_hs hr]
    unfold valK
    rw [hf a _ ha, List.find?_cons_of_pos (by simp)]; rfl
  | none a b ha hb hr =>
    rw [atK_non hb hr]
    unfold valK
    rw [hf a _ ha, List.find?_eq_none.2 (fun x hx => ?_)]
    · rfl
    · have h2 := kLt_ne (hb x hx)
      intro h; rw [beq_iff_eq] at h; rw [h] at h2; simp at h2
theorem costOf_append (a b : List (EK.C kSS)) : costOf (a ++ b) = costOf a + costOf b := by
  unfold costOf; rw [List.map_append, List.sum_append]
theorem costOf_cons (x : EK.C kSS) (b : List (EK.C kSS)) : costOf (x :: b) = pairCost x + costOf b := by
  unfold costOf; rw [List.map_cons, List.sum_cons]
theorem set_law {l : List (EK.C kSS)} (hs : sortedK l) (k v : ByteArray) : setK l k v = withL l 1 k v ∧ sortedK (withL l 1 k v) ∧ (withL l 1 k v).length ≤ l.length + 1 ∧ (∀ x ∈ withL l 1 k v, x ∈ l ∨ x = (k, v)) ∧
    costOf (withL l 1 k v) = (match atK l k with | some o => costOf l - pairCost (k, o) | none => costOf l) + pairCost (k, v) := by
  have hso : ∀ a b : List (EK.C kSS), sortedK (a ++ b) → (∀ x ∈ a, kLt x.1 k = true) → (∀ x ∈ b, kLt k x.1 = true) → sortedK (a ++ (k, v) :: b) := by
    intro a b h ha hb
    obtain ⟨h1, h2, h3⟩ := List.pairwise_append.1 h
    refine List.pairwise_append.2 ⟨h1, List.pairwise_cons.2 ⟨hb, h2⟩, fun x hx y hy => ?_⟩
    rcases List.mem_cons.1 hy with rfl | hy
    · exact ha x hx
    · exact h3 x hx y hy
  cases parts k l hs with
  | has a b w ha hb hr =>
    obtain ⟨e1, e2⟩ := low_has (v := w) ha hb
    have hw : withL (a ++ (k, w) :: b) 1 k v = a ++ (k, v) :: b := by
      unfold withL; rw [e1, e2]
      show (a ++ [(k, v)]) ++ b = _
      rw [List.append_assoc]; rfl
    have hab : sortedK (a ++ b) := by
      obtain ⟨h1, h2, h3⟩ := List.pairwise_append.1 hs
      exact List.pairwise_append.2 ⟨h1, (List.pairwise_cons.1 h2).2, fun x hx y hy => h3 x hx y (by simp [hy])⟩
    rw [hw]
    refine ⟨?_, hso a b hab ha hb, by simp, fun x hx => ?_, ?_⟩
    · unfold setK
      rw [atK_hs hr, hr, getD_mid]
      simp only
      rw [List.set_append_right _ _ (Nat.le_refl _), Nat.sub_self]; rfl
    · simp only [List.mem_append, List.mem_cons] at hx ⊢
      rcases hx with h | h | h
      · exact .inl (.inl h)
      · exact .inr h
      · exact .inl (.inr (.inr h))
    · rw [atK_hs hr]
      simp only
      rw [costOf_append, costOf_append, costOf_cons, costOf_cons]; omega
  | none a b ha hb hr =>
    obtain ⟨e1, e2⟩ := low_parts ha hb
    have hw : withL (a ++ b) 1 k v = a ++ (k, v) :: b := by
      unfold withL; rw [e1, e2]
      show (a ++ [(k, v)]) ++ b = _
      rw [List.append_assoc]; rfl
    rw [hw]
    refine ⟨?_, hso a b hs ha hb, by simp only [List.length_append, List.length_cons]; omega, fun x hx => ?_, ?_⟩
    · unfold setK
      rw [atK_non hb hr, hr]
      simp only
      rw [List.take_left, List.drop_left]; rfl
    · simp only [List.mem_append, List.mem_cons] at hx ⊢
      rcases hx with h | h | h
      · exact .inl (.inl h)
      · exact .inr h
      · exact .inl (.inr h)
    · rw [atK_non hb hr]
      simp only
      rw [costOf_append, costOf_append, costOf_cons]; omega
theorem del_law {l : List (EK.C kSS)} (hs : sortedK l) (k v : ByteArray) : delK l k = withL l 3 k v ∧ sortedK (withL l 3 k v) ∧ (withL l 3 k v).length ≤ l.length ∧ (∀ x ∈ withL l 3 k v, x ∈ l) ∧
    costOf (withL l 3 k v) = (match atK l k with | some o => costOf l - pairCost (k, o) | none => costOf l) := by
  cases parts k l hs with
  | has a b w ha hb hr =>
    obtain ⟨e1, e2⟩ := low_has (v := w) ha hb
    have hw : withL (a ++ (k, w) :: b) 3 k v = a ++ b := by unfold withL; rw [e1, e2]; rfl
    rw [hw]
    refine ⟨?_, ?_, by simp, fun x hx => ?_, ?_⟩
    · unfold delK
      rw [atK_hs hr, hr]
      simp only
      rw [List.take_left, ← List.drop_drop, List.drop_left]; rfl
    · obtain ⟨h1, h2, h3⟩ := List.pairwise_append.1 hs
      exact List.pairwise_append.2 ⟨h1, (List.pairwise_cons.1 h2).2, fun x hx y hy => h3 x hx y (by simp [hy])⟩
    · simp only [List.mem_append, List.mem_cons] at hx ⊢
      rcases hx with h | h
      · exact .inl h
      · exact .inr (.inr h)
    · rw [atK_hs hr]
      simp only
      rw [costOf_append, costOf_append, costOf_cons]; omega
  | none a b ha hb hr =>
    obtain ⟨e1, e2⟩ := low_parts ha hb
    have hw : withL (a ++ b) 3 k v = a ++ b := by unfold withL; rw [e1, e2]; rfl
    rw [hw]
    refine ⟨?_, hs, Nat.le_refl _, fun x hx => hx, ?_⟩
    · unfold delK; rw [atK_non hb hr]
    · rw [atK_non hb hr]
end Go.Ideal

set_option maxRecDepth 1000000
namespace Go.Ideal
open Go.Proofs
theorem iok_plain3 {f : FuncId} {n : Nat} (he : entry Tryz.prog f = some (n, pcOf Tryz.prog f [])) {q : PlainF}
    (hF : ∀ args, q.ok args → args.all flat = true ∧ args.length ≤ n ∧ flat (q.v args) = true ∧ ∃ fs, AllOk Tryz.prog tabLaid fs ∧ EndsN (ctxI Tryz.prog tabLaid fs) 20 f (fun v' _ => v' = q.v args) (st f n args (heap0 tabLaid 20))) : IOk Tryz.prog tabLaid f q.F := by
  refine ⟨⟨n, _, he⟩, ?_⟩
  intro base W0 μ H W args args' v H' hW hH hl ha hFv
  unfold PlainF.F at hFv
  split at hFv
  · rename_i hq
    cases hFv
    obtain ⟨h1, h2, h3, fs, hfs, h4⟩ := hF args hq
    have hW1 : LaidW (ctxI Tryz.prog tabLaid fs) (base.at W) W := by
      have := hW.carry hH
      unfold LaidW at this ⊢
      exact this
    obtain ⟨s1, s2⟩ := start0 (X := ctxI Tryz.prog tabLaid fs) hW1 (none_le _) (fun _ hi => hi) (n := 20) (all_lt (by kernel_rfl))
    have hargs : args'.toList = args := flats_eq args _ h1 ha
    intro cs
    obtain ⟨c', ⟨v2, Hf, hd, rfl⟩, μ1, fr1, cs1, W1, st, m1⟩ := h4 (base.at W) W (fun b T hb => by cases hb) (hfs.intr _ _ hW1) (planOk_of (by kernel_rfl) rfl) cs _ _ [] W (start_rel s1 s2 he (by rw [hargs]; exact flats_refl args h1) h2)
    obtain ⟨rfl, hf, v', e1, e2, e3⟩ := done_rel m1 hd
    have hs' : Steps (ctxI Tryz.prog tabLaid fs).P (lone (Frame.enter (ctxI Tryz.prog tabLaid fs).P f args' .normal) cs W) (lone fr1 cs W1) := by simpa using st
    refine ⟨.returned v', W1, fr1, ⟨v', μ, rfl, hH.carry (size_of_kept e2) e2.below e2.out e2.os, ?_, Evolve.refl _ _⟩, hs', hf, e1⟩
    rw [flat_eq h3 e3]; exact flat_refl h3
  · cases hFv
def hex16 : ByteArray := { data := #[48, 49, 50, 51, 52, 53, 54, 55, 56, 57, 97, 98, 99, 100, 101, 102] }
def nmA (i : Nat) : ByteArray := ⟨(([[97], [98], [99], [97, 98], [107, 49]] : List (List UInt8)).getD i []).toArray⟩
def actV (val : Int) : ByteArray := ByteArray.extract hex16 0 (Int.toNat (Int.tmod val 17))
noncomputable def treeOp (s : ByteArray) (kind val : Int) (Q : Value → List (Option IObj) → Prop) : Prop :=
  (bif decide (Int.tmod kind 8 < 4) then
    (bif decide (0 ≤ Int.tmod val 17) && Nat.ble (Int.toNat (Int.tmod val 17)) (ByteArray.size hex16) && decide ((0 : Int) ≤ 0) && Nat.ble 0 (Int.toNat (Int.tmod val 17)) then
      (Q (opV 1 0 0 s (actV val)) [])
    else False)
  else
    (bif decide (Int.tmod kind 8 < 6) then (Q (opV 3 0 0 s { data := #[] }) [])
    else
      (bif Int.tmod kind 8 == 6 then (Q (opV 4 0 0 { data := #[] } { data := #[] }) [])
      else (Q (opV 2 0 0 s { data := #[] }) []))))
theorem vc_ops (kind val : Int) (Q : Value → List (Option IObj) → Prop) : (List.range 256).map (fun key => VCp X0 noPf f_drumlinlaw42_Act_op [] Q 300 (st f_drumlinlaw42_Act_op 35 [.agg ⟨[.int .u8 kind, .int .u8 (Int.ofNat key), .int .u8 val]⟩] (heap0 tab42 20))) = (List.range 256).map (fun key => treeOp (nmA (key % 5)) kind val Q) := by kernel_rfl
end Go.Ideal

set_option maxRecDepth 1000000
namespace Go.Ideal
open Go.Proofs
def aK (kind : Int) : Int := bif decide (Int.tmod kind 8 < 4) then 1 else bif decide (Int.tmod kind 8 < 6) then 3 else bif Int.tmod kind 8 == 6 then 4 else 2
def aS (kind key : Int) : ByteArray := bif aK kind == 4 then { data := #[] } else nmA (key.toNat % 5)
def aV (kind val : Int) : ByteArray := bif aK kind == 1 then actV val else { data := #[] }
def isB (x : Int) : Prop := 0 ≤ x ∧ x < 256
noncomputable def qOp : PlainF where
  ok := fun args => match args with
    | [.agg ⟨[.int .u8 kind, .int .u8 key, .int .u8 val]⟩] => isB kind ∧ isB key ∧ isB val
    | _ => False
  v := fun args => match args with
    | [.agg ⟨[.int .u8 kind, .int .u8 key, .int .u8 val]⟩] => opV (aK kind) 0 0 (aS kind key) (aV kind val)
    | _ => junk
theorem tmod17 {val : Int} (h : isB val) : 0 ≤ Int.tmod val 17 ∧ Int.tmod val 17 < 17 := by
  obtain ⟨h1, _⟩ := h
  rw [Int.tmod_eq_emod_of_nonneg h1]
  exact ⟨Int.emod_nonneg _ (by decide), Int.emod_lt_of_pos _ (by decide)⟩
theorem op_tree {kind key val : Int} (hv : isB val) : treeOp (nmA (key.toNat % 5)) kind val (fun v _ => v = opV (aK kind) 0 0 (aS kind key) (aV kind val)) := by
  obtain ⟨h1, h2⟩ := tmod17 hv
  have hb : (decide (0 ≤ Int.tmod val 17) && Nat.ble (Int.toNat (Int.tmod val 17)) (ByteArray.size hex16) && decide ((0 : Int) ≤ 0) && Nat.ble 0 (Int.toNat (Int.tmod val 17))) = true := by
    have e1 : ByteArray.size hex16 = 16 := rfl
    rw [e1, decide_eq_true h1, Nat.ble_eq_true_of_le (by omega), Nat.ble_eq_true_of_le (Nat.zero_le _)]; rfl
  unfold treeOp aV aS aK
  rw [hb]
  cases decide (Int.tmod kind 8 < 4)
  · cases decide (Int.tmod kind 8 < 6)
    · cases Int.tmod kind 8 == 6 <;> rfl
    · rfl
  · rfl
theorem op_ends {kind key val : Int} (h2 : isB key) (h3 : isB val) : EndsIn X0 f_drumlinlaw42_Act_op (fun v _ => v = opV (aK kind) 0 0 (aS kind key) (aV kind val)) (st f_drumlinlaw42_Act_op 35 [.agg ⟨[.int .u8 kind, .int .u8 key, .int .u8 val]⟩] (heap0 tab42 20)) := by
  refine VCp_ok (noPf_ok X0) (ids := []) (Q := fun v _ => v = opV (aK kind) 0 0 (aS kind key) (aV kind val)) 300 _ ?_
  obtain ⟨k, rfl⟩ := Int.eq_ofNat_of_zero_le h2.1
  have hk : k < 256 := by have := h2.2; omega
  have h := List.map_inj_left.1 (vc_ops kind val (fun v _ => v = opV (aK kind) 0 0 (aS kind (k : Int)) (aV kind val))) k (List.mem_range.2 hk)
  have h : VCp X0 noPf f_drumlinlaw42_Act_op [] (fun v _ => v = opV (aK kind) 0 0 (aS kind (k : Int)) (aV kind val)) 300 (st f_drumlinlaw42_Act_op 35 [.agg ⟨[.int .u8 kind, .int .u8 (k : Int), .int .u8 val]⟩] (heap0 tab42 20)) = treeOp (nmA (k % 5)) kind val (fun v _ => v = opV (aK kind) 0 0 (aS kind (k : Int)) (aV kind val)) := h
  rw [h]
  have := op_tree (kind := kind) (key := (k : Int)) (val := val) h3
  rwa [Int.toNat_natCast] at this
theorem iok_op : IOk Tryz.prog tab42 f_drumlinlaw42_Act_op qOp.F := by
  refine iok_plain3 (n := 35) (by kernel_rfl) fun args h => ?_
  unfold qOp at h
  simp only at h
  split at h
  · rename_i kind key val
    refine ⟨rfl, by simp, rfl, [], AllOk.nil _ _, ?_⟩
    exact (op_ends h.2.1 h.2.2).toN
  · exact h.elim
end Go.Ideal

--CASTS
set_option maxRecDepth 1000000
namespace Go.Ideal
open Go.Proofs
noncomputable def knC (cfg : List Int) (m y n : Nat) : List Value :=
  [.pointer (some ⟨m, 0, none⟩), .int .i64 (cfg.getD 0 0), .int .i64 (cfg.getD 1 0), .int .i64 (cfg.getD 2 0), .int .i64 (cfg.getD 3 0), .int .i64 (cfg.getD 4 0), .int .i64 (cfg.getD 5 0), .int .i64 (cfg.getD 6 0), .slice (some ⟨y, 0, some 0⟩) n capU]
noncomputable def hintPf (x : Value) (p : PFun) : PFun := fun args H K => match args with
  | a :: r => a = x ∧ p (x :: r) H K
  | [] => False
noncomputable def costQ : MdlF := ⟨fun _ rest => rest = [], fun m _ => .int .i64 m.cost, fun m _ => m⟩
noncomputable def unsQ : MdlF := ⟨fun _ rest => rest = [], fun m _ => .int .i64 m.ups.length, fun m _ => m⟩
noncomputable abbrev fsAg : List (FuncId × IFun) := [(f_drumlinlaw42_all, footF tab42 9 [true] allG), (f_drumlinlaw42_lists, footF tab42 9 [] listsG), (f_drumlinlaw42_strings, footF tab42 9 [] strsG), (f_drumlinlaw42_cost, footF tab42 9 [] costG), (f_model_Model_Cost, footF tab42 9 [true] costQ.G), (f_model_Model_Unsynced, footF tab42 9 [true] unsQ.G)]
noncomputable def XAg : Ctx := ctxI Tryz.prog tab42 fsAg
noncomputable def pfAg (x : Value) : Pf := fun g => bif Nat.beq g f_drumlinlaw42_all then some (footPf tab42 9 [true] allG) else bif Nat.beq g f_drumlinlaw42_lists then some (hintPf x (footPf tab42 9 [] listsG)) else bif Nat.beq g f_drumlinlaw42_strings then some (footPf tab42 9 [] strsG) else
  bif Nat.beq g f_drumlinlaw42_cost then some (hintPf x (footPf tab42 9 [] costG)) else bif Nat.beq g f_model_Model_Cost then some (footPf tab42 9 [true] costQ.G) else bif Nat.beq g f_model_Model_Unsynced then some (footPf tab42 9 [true] unsQ.G) else noPf g
noncomputable def hKnL (cfg : List Int) (m : MSt) (n : Nat) (l : List (EK.C [.tok])) (cur : List (EK.C kSS)) : IHeap := putL ⟨.leaf, 9⟩ [.cells (knC cfg 10 11 (n + 1)) 0 false, .abs (.pack (.model m)) false, .vec [.tok] l false, .vec kSS cur false]
noncomputable def hKn (cfg : List Int) (m : MSt) (n : Nat) (cur : List (EK.C kSS)) : IHeap := hKnL cfg m n (kRow n 12 cur.length) cur
noncomputable def hint12 (cur : List (EK.C kSS)) : Value := .slice (some ⟨12, 0, some 0⟩) cur.length capU
theorem vc_costM (m : MSt) (Q : Value → List (Option IObj) → Prop) : VCp XM pfM f_model_Model_Cost [9, 10, 11, 12] Q 100 (st f_model_Model_Cost 10 [p9] (putL ⟨.leaf, 9⟩ (mdU m))) = (
 (Q (.int IntKind.i64 (MSt.cost m)) [some (.cells [(.int IntKind.i64 (List.getD (MSt.cfg m) 0 0)), (.int IntKind.i64 (List.getD (MSt.cfg m) 1 0)), (.int IntKind.i64 (List.getD (MSt.cfg m) 2 0)), (.int IntKind.i64 (List.getD (MSt.cfg m) 3 0)), (.int IntKind.i64 (List.getD (MSt.cfg m) 4 0)), (.int IntKind.i64 (List.getD (MSt.cfg m) 5 0)), (.int IntKind.i64 (List.getD (MSt.cfg m) 6 0)), (.int IntKind.i64 (MSt.limit m)), (.pointer (some ⟨10, 0, none⟩)), (.pointer (some ⟨11, 0, none⟩)), (.int IntKind.i64 (MSt.cost m)), (.slice (some ⟨12, 0, (some 0)⟩) (List.length (MSt.ups m)) 18446744073709551616), (.pointer none), (.int IntKind.i64 (MSt.state m)), (.bool (MSt.planned m))] 0 false), some (.abs (Abs.pack (Pk.table (MSt.base m))) false), some (.abs (Abs.pack (Pk.table (MSt.now m))) false), some (.vec kUp (MSt.ups m) false)])) := by kernel_rfl
theorem vc_unsM (m : MSt) (Q : Value → List (Option IObj) → Prop) : VCp XM pfM f_model_Model_Unsynced [9, 10, 11, 12] Q 100 (st f_model_Model_Unsynced 11 [p9] (putL ⟨.leaf, 9⟩ (mdU m))) = (
 (Q (.int IntKind.i64 (Int.ofNat (List.length (MSt.ups m)))) [some (.cells [(.int IntKind.i64 (List.getD (MSt.cfg m) 0 0)), (.int IntKind.i64 (List.getD (MSt.cfg m) 1 0)), (.int IntKind.i64 (List.getD (MSt.cfg m) 2 0)), (.int IntKind.i64 (List.getD (MSt.cfg m) 3 0)), (.int IntKind.i64 (List.getD (MSt.cfg m) 4 0)), (.int IntKind.i64 (List.getD (MSt.cfg m) 5 0)), (.int IntKind.i64 (List.getD (MSt.cfg m) 6 0)), (.int IntKind.i64 (MSt.limit m)), (.pointer (some ⟨10, 0, none⟩)), (.pointer (some ⟨11, 0, none⟩)), (.int IntKind.i64 (MSt.cost m)), (.slice (some ⟨12, 0, (some 0)⟩) (List.length (MSt.ups m)) 18446744073709551616), (.pointer none), (.int IntKind.i64 (MSt.state m)), (.bool (MSt.planned m))] 0 false), some (.abs (Abs.pack (Pk.table (MSt.base m))) false), some (.abs (Abs.pack (Pk.table (MSt.now m))) false), some (.vec kUp (MSt.ups m) false)])) := by kernel_rfl
noncomputable abbrev vc_agr_0 (cfg : List Int) (n : Nat) : IObj := (.cells [(.pointer (some ⟨10, 0, none⟩)), (.int IntKind.i64 (List.getD cfg 0 0)), (.int IntKind.i64 (List.getD cfg 1 0)), (.int IntKind.i64 (List.getD cfg 2 0)), (.int IntKind.i64 (List.getD cfg 3 0)), (.int IntKind.i64 (List.getD cfg 4 0)), (.int IntKind.i64 (List.getD cfg 5 0)), (.int IntKind.i64 (List.getD cfg 6 0)), (.slice (some ⟨11, 0, (some 0)⟩) (n + 1) capU)] 0 false)
theorem vc_agr (cfg : List Int) (m : MSt) (n : Nat) (cur : List (EK.C kSS)) (Q : Value → List (Option IObj) → Prop) : VCp XAg (pfAg (hint12 cur)) f_drumlinlaw42_known_agrees [9, 10, 11, 12] Q 400 (st f_drumlinlaw42_known_agrees 47 [p9, .pointer (some ⟨10, 0, none⟩)] (hKn cfg m n cur)) = (
 (List.length (MSt.now m) < 1000000) ∧
 (bif decide (0 ≤ IntKind.wrap IntKind.i64 (Int.ofNat (n + 1) - 1)) && Nat.blt (Int.toNat (IntKind.wrap IntKind.i64 (Int.ofNat (n + 1) - 1))) (n + 1) then
  (bif Nat.blt (0 + Int.toNat (IntKind.wrap IntKind.i64 (Int.ofNat (n + 1) - 1))) (List.length (kRow n 12 (List.length cur))) && isSl (SK.enc SK.tok (List.getD (kRow n 12 (List.length cur)) (0 + Int.toNat (IntKind.wrap IntKind.i64 (Int.ofNat (n + 1) - 1))) (EK.dflt [SK.tok]))) then
   (((.slice (slRef (SK.enc SK.tok (List.getD (kRow n 12 (List.length cur)) (0 + Int.toNat (IntKind.wrap IntKind.i64 (Int.ofNat (n + 1) - 1))) (EK.dflt [SK.tok])))) (slLen (SK.enc SK.tok (List.getD (kRow n 12 (List.length cur)) (0 + Int.toNat (IntKind.wrap IntKind.i64 (Int.ofNat (n + 1) - 1))) (EK.dflt [SK.tok])))) (slCap (SK.enc SK.tok (List.getD (kRow n 12 (List.length cur)) (0 + Int.toNat (IntKind.wrap IntKind.i64 (Int.ofNat (n + 1) - 1))) (EK.dflt [SK.tok]))))) : Value) = (.slice (some ⟨12, 0, (some 0)⟩) (List.length cur) 18446744073709551616)) ∧
   ((List.length cur = List.length cur ∧ capU = capU) ∧ List.length cur < 1000000) ∧
   ((List.length (MSt.now m) = List.length (kysOf (MSt.now m)) ∧ capU = capU) ∧ (List.length cur = List.length (kysOf cur) ∧ capU = capU) ∧ List.length (kysOf (MSt.now m)) < 1000000 ∧ List.length (kysOf cur) < 1000000) ∧
   (bif strsEq (kysOf (MSt.now m)) (kysOf cur) then
    ((List.length (MSt.now m) = List.length (vlsOf (MSt.now m)) ∧ capU = capU) ∧ (List.length cur = List.length (vlsOf cur) ∧ capU = capU) ∧ List.length (vlsOf (MSt.now m)) < 1000000 ∧ List.length (vlsOf cur) < 1000000) ∧
    (bif strsEq (vlsOf (MSt.now m)) (vlsOf cur) then
     (MdlF.ok costQ m []) ∧
     (((.pointer (some ⟨9, 0, none⟩)) : Value) = (.pointer (some ⟨9, 0, none⟩))) ∧
     (bif decide (0 ≤ IntKind.wrap IntKind.i64 (Int.ofNat (n + 1) - 1)) && Nat.blt (Int.toNat (IntKind.wrap IntKind.i64 (Int.ofNat (n + 1) - 1))) (n + 1) then
      (bif Nat.blt (0 + Int.toNat (IntKind.wrap IntKind.i64 (Int.ofNat (n + 1) - 1))) (List.length (kRow n 12 (List.length cur))) && isSl (SK.enc SK.tok (List.getD (kRow n 12 (List.length cur)) (0 + Int.toNat (IntKind.wrap IntKind.i64 (Int.ofNat (n + 1) - 1))) (EK.dflt [SK.tok]))) then
       (((.slice (slRef (SK.enc SK.tok (List.getD (kRow n 12 (List.length cur)) (0 + Int.toNat (IntKind.wrap IntKind.i64 (Int.ofNat (n + 1) - 1))) (EK.dflt [SK.tok])))) (slLen (SK.enc SK.tok (List.getD (kRow n 12 (List.length cur)) (0 + Int.toNat (IntKind.wrap IntKind.i64 (Int.ofNat (n + 1) - 1))) (EK.dflt [SK.tok])))) (slCap (SK.enc SK.tok (List.getD (kRow n 12 (List.length cur)) (0 + Int.toNat (IntKind.wrap IntKind.i64 (Int.ofNat (n + 1) - 1))) (EK.dflt [SK.tok]))))) : Value) = (.slice (some ⟨12, 0, (some 0)⟩) (List.length cur) 18446744073709551616)) ∧
       ((List.length cur = List.length cur ∧ capU = capU) ∧ smallL cur) ∧
       (bif MSt.cost m == costOf cur then
        (MdlF.ok unsQ (MdlF.nx costQ m []) []) ∧
        (((.int IntKind.i64 (IntKind.wrap IntKind.i64 (Int.ofNat (n + 1) - 1))) : Value) = (.int IntKind.i64 (IntKind.wrap IntKind.i64 (Int.ofNat (n + 1) - 1)))) ∧
        (((.int IntKind.i64 (Int.ofNat (n + 1))) : Value) = (.int IntKind.i64 (Int.ofNat (n + 1)))) ∧
        (((.slice (some ⟨11, 0, (some 0)⟩) (n + 1) 18446744073709551616) : Value) = (.slice (some ⟨11, 0, (some 0)⟩) (n + 1) 18446744073709551616)) ∧
        (((.pointer (some ⟨9, 8, none⟩)) : Value) = (.pointer (some ⟨9, 8, none⟩))) ∧
        (((.pointer (some ⟨9, 0, none⟩)) : Value) = (.pointer (some ⟨9, 0, none⟩))) ∧
        (((.pointer (some ⟨9, 0, none⟩)) : Value) = (.pointer (some ⟨9, 0, none⟩))) ∧
        (bif ((List.length (MSt.ups (MdlF.nx costQ m []))) : Int) == IntKind.wrap IntKind.i64 (Int.ofNat (n + 1) - 1) then
         (Q (.bool true) [some (vc_agr_0 cfg n), some (.abs (Abs.pack (Pk.model (MdlF.nx unsQ (MdlF.nx costQ m []) []))) false), some (.vec [SK.tok] (kRow n 12 (List.length cur)) false), some (.vec kSS cur false)])
        else
         (Q (.bool false) [some (vc_agr_0 cfg n), some (.abs (Abs.pack (Pk.model (MdlF.nx unsQ (MdlF.nx costQ m []) []))) false), some (.vec [SK.tok] (kRow n 12 (List.length cur)) false), some (.vec kSS cur false)]))
       else
        (Q (.bool false) [some (vc_agr_0 cfg n), some (.abs (Abs.pack (Pk.model (MdlF.nx costQ m []))) false), some (.vec [SK.tok] (kRow n 12 (List.length cur)) false), some (.vec kSS cur false)]))
      else
       False)
     else
      False)
    else
     (Q (.bool false) [some (vc_agr_0 cfg n), some (.abs (Abs.pack (Pk.model m)) false), some (.vec [SK.tok] (kRow n 12 (List.length cur)) false), some (.vec kSS cur false)]))
   else
    (Q (.bool false) [some (vc_agr_0 cfg n), some (.abs (Abs.pack (Pk.model m)) false), some (.vec [SK.tok] (kRow n 12 (List.length cur)) false), some (.vec kSS cur false)]))
  else
   False)
 else
  False)) := by kernel_rfl
def DoOk (m : MSt) (k a b : Int) (key val : ByteArray) (e : Int) (sv : ByteArray) : Prop := m.cfg.length = 7 ∧ m.state = 0 ∧ m.planned = false ∧ ChkOk k a b key val ∧ sortedK m.now ∧ m.now.length < 900000 ∧ m.ups.length < 1000000 ∧ ((k == 7) = true → (e == 0 && (ByteArray.toList sv == ByteArray.toList { data := #[] } && true)) = false)
noncomputable def doNx (m : MSt) (k a b : Int) (key val : ByteArray) (e : Int) (sv : ByteArray) : MSt := (doR m k a b key val e sv).getD m
noncomputable def doB (m : MSt) (k a b : Int) (key val : ByteArray) (e : Int) (sv : ByteArray) : Bool := (doR m k a b key val e sv).isSome
noncomputable def doE (m : MSt) (k a b : Int) (key val : ByteArray) (e : Int) (sv : ByteArray) : Int := bif doB m k a b key val e sv then 0 else 7
noncomputable def doG (args : List Value) (objs : List IObj) : GT :=
  match args, objs with
  | [.pointer (some ⟨9, 0, none⟩), .agg ⟨[.int .i64 k, .int .i64 a, .int .i64 b, .string key, .string val]⟩, .agg ⟨[.int .i64 e, .string sv]⟩], [.abs (.pack (.model m)) _] =>
    .ask (DoOk m k a b key val e sv) (.ret ⟨.int .i64 (doE m k a b key val e sv), [some (.abs (.pack (.model (doNx m k a b key val e sv))) false)], []⟩)
  | _, _ => .fail
noncomputable abbrev fsAc : List (FuncId × IFun) := [(f_drumlinlaw42_Act_op, qOp.F), (f_drumlinlaw42_value, footF tab42 9 [] valueG), (f_drumlinlaw42_with, footF tab42 9 [] withG), (f_drumlinlaw42_cost, footF tab42 9 [] costG), (f_model_Model_Copy, footF tab42 9 [true] copyMG), (f_model_Model_Do, footF tab42 9 [true] doG)]
noncomputable def XAc : Ctx := ctxI Tryz.prog tab42 fsAc
noncomputable def pOpH (k : Int) (s v : ByteArray) : PFun := fun args H K => match args with
  | [.agg ⟨[.int .u8 kind, .int .u8 key, .int .u8 val]⟩] => ((isB kind ∧ isB key ∧ isB val) ∧ aK kind = k ∧ aS kind key = s ∧ aV kind val = v) ∧ K (opV k 0 0 s v) H
  | _ => False
noncomputable def pfAc (x : Value) (k : Int) (s v : ByteArray) : Pf := fun g => bif Nat.beq g f_drumlinlaw42_Act_op then some (pOpH k s v) else bif Nat.beq g f_drumlinlaw42_value then some (hintPf x (footPf tab42 9 [] valueG)) else bif Nat.beq g f_drumlinlaw42_with then some (hintPf x (footPf tab42 9 [] withG)) else
  bif Nat.beq g f_drumlinlaw42_cost then some (footPf tab42 9 [] costG) else bif Nat.beq g f_model_Model_Copy then some (footPf tab42 9 [true] copyMG) else bif Nat.beq g f_model_Model_Do then some (footPf tab42 9 [true] doG) else noPf g
noncomputable def acT (cfg : List Int) (m : MSt) (n : Nat) (l : List (EK.C [.tok])) (cur : List (EK.C kSS)) (k a b : Int) (key val : ByteArray) (we : Int) (wv : ByteArray) (u : Bool) (e : Int) : Cfg :=
  ⟨⟨f_drumlinlaw42_known_act, mkT [(0, p9), (5, ptb 13), (8, ptb 14), (9, .bool u), (10, .int .i64 e)], 116, [.code (pcOf Tryz.prog f_drumlinlaw42_known_act [1, 1, 1, 1, 1, 1, 0, 1, 0, 0]), .inLoop (pcOf Tryz.prog f_drumlinlaw42_known_act [1, 1, 1, 1, 1, 1, 0, 1, 0, 0]), .inBlock 1, .code (pcOf Tryz.prog f_drumlinlaw42_known_act [1, 1, 1, 1, 1, 1, 1])], [], false, .normal, none⟩, [],
    ((hKnL cfg m n l cur).alloc (boxO k a b key val)).alloc (.cells [.int .i64 we, .string wv] 0 false)⟩
def acS : Stop := ⟨f_drumlinlaw42_known_act, 0, 3, 13, [9, 10, 11, 12], [0, 5, 8, 9, 10]⟩
noncomputable def mapR (ids : List Nat) (n : Nat) (cur : List (EK.C kSS)) : List (EK.C [.tok]) := List.map (rwV (rnOf 13 ids)) (kRow n 12 cur.length)
theorem vc_ac01 (cfg : List Int) (m : MSt) (n : Nat) (cur : List (EK.C kSS)) (kind key val : Int) (s v : ByteArray) (Q : Value → List (Option IObj) → Prop) (R : Cfg → Prop) : VCs XAc (pfAc (hint12 cur) 1 s v) f_drumlinlaw42_known_act [9, 10, 11, 12] acS Q R 400 (st f_drumlinlaw42_known_act 116 [p9, .agg ⟨[.int .u8 kind, .int .u8 key, .int .u8 val]⟩] (hKn cfg m n cur)) = (
 ((isB kind ∧ isB key ∧ isB val) ∧ aK kind = 1 ∧ aS kind key = s ∧ aV kind val = v) ∧
 (bif decide (0 ≤ IntKind.wrap IntKind.i64 (Int.ofNat (n + 1) - 1)) && Nat.blt (Int.toNat (IntKind.wrap IntKind.i64 (Int.ofNat (n + 1) - 1))) (n + 1) then
  (bif Nat.blt (0 + Int.toNat (IntKind.wrap IntKind.i64 (Int.ofNat (n + 1) - 1))) (List.length (kRow n 12 (List.length cur))) && isSl (SK.enc SK.tok (List.getD (kRow n 12 (List.length cur)) (0 + Int.toNat (IntKind.wrap IntKind.i64 (Int.ofNat (n + 1) - 1))) (EK.dflt [SK.tok]))) then
   (((.string s) : Value) = (.string s)) ∧
   (((.pointer (some ⟨14, 3, none⟩)) : Value) = (.pointer (some ⟨14, 3, none⟩))) ∧
   (((.slice (slRef (SK.enc SK.tok (List.getD (kRow n 12 (List.length cur)) (0 + Int.toNat (IntKind.wrap IntKind.i64 (Int.ofNat (n + 1) - 1))) (EK.dflt [SK.tok])))) (slLen (SK.enc SK.tok (List.getD (kRow n 12 (List.length cur)) (0 + Int.toNat (IntKind.wrap IntKind.i64 (Int.ofNat (n + 1) - 1))) (EK.dflt [SK.tok])))) (slCap (SK.enc SK.tok (List.getD (kRow n 12 (List.length cur)) (0 + Int.toNat (IntKind.wrap IntKind.i64 (Int.ofNat (n + 1) - 1))) (EK.dflt [SK.tok]))))) : Value) = (.slice (some ⟨12, 0, (some 0)⟩) (List.length cur) 18446744073709551616)) ∧
   ((List.length cur = List.length cur ∧ capU = capU) ∧ List.length cur < 1000000) ∧
   (bif Option.isSome (valK cur s) then
    (((.bool (Option.isSome (valK cur s))) : Value) = (.bool true)) ∧
    (bif decide (0 ≤ IntKind.wrap IntKind.i64 (Int.ofNat (n + 1) - 1)) && Nat.blt (Int.toNat (IntKind.wrap IntKind.i64 (Int.ofNat (n + 1) - 1))) (n + 1) then
     (bif Nat.blt (0 + Int.toNat (IntKind.wrap IntKind.i64 (Int.ofNat (n + 1) - 1))) (List.length (kRow n 12 (List.length cur))) && isSl (SK.enc SK.tok (List.getD (kRow n 12 (List.length cur)) (0 + Int.toNat (IntKind.wrap IntKind.i64 (Int.ofNat (n + 1) - 1))) (EK.dflt [SK.tok]))) then
      (((.pointer (some ⟨9, 0, none⟩)) : Value) = (.pointer (some ⟨9, 0, none⟩))) ∧
      (((.agg ⟨[(.int IntKind.i64 1), (.int IntKind.i64 0), (.int IntKind.i64 0), (.string s), (.string v)]⟩) : Value) = (.agg ⟨[(.int IntKind.i64 1), (.int IntKind.i64 0), (.int IntKind.i64 0), (.string s), (.string v)]⟩)) ∧
      (((.slice (slRef (SK.enc SK.tok (List.getD (kRow n 12 (List.length cur)) (0 + Int.toNat (IntKind.wrap IntKind.i64 (Int.ofNat (n + 1) - 1))) (EK.dflt [SK.tok])))) (slLen (SK.enc SK.tok (List.getD (kRow n 12 (List.length cur)) (0 + Int.toNat (IntKind.wrap IntKind.i64 (Int.ofNat (n + 1) - 1))) (EK.dflt [SK.tok])))) (slCap (SK.enc SK.tok (List.getD (kRow n 12 (List.length cur)) (0 + Int.toNat (IntKind.wrap IntKind.i64 (Int.ofNat (n + 1) - 1))) (EK.dflt [SK.tok]))))) : Value) = (.slice (some ⟨12, 0, (some 0)⟩) (List.length cur) 18446744073709551616)) ∧
      ((List.length cur = List.length cur ∧ capU = capU) ∧ List.length cur < 400000) ∧
      (((.pointer (some ⟨9, 0, none⟩)) : Value) = (.pointer (some ⟨9, 0, none⟩))) ∧
      ((List.length (withL cur 1 s v) = List.length (withL cur 1 s v) ∧ capU = capU) ∧ smallL (withL cur 1 s v)) ∧
      (((.pointer (some ⟨9, 0, none⟩)) : Value) = (.pointer (some ⟨9, 0, none⟩))) ∧
      (bif decide (costOf (withL cur 1 s v) ≤ IntKind.wrap IntKind.i64 (Int.tdiv (IntKind.wrap IntKind.i64 (IntKind.wrap IntKind.i64 (IntKind.wrap IntKind.i64 (List.getD cfg 0 0 - List.getD cfg 2 0) - 2) * 84)) 2)) then
       (R (acT cfg m n (mapR [14, 15] n cur) cur 1 0 0 s v 0 ({ data := #[] }) true 0))
      else
       (R (acT cfg m n (mapR [14, 15] n cur) cur 1 0 0 s v 4 ({ data := #[] }) false 0)))
     else
      False)
    else
     False)
   else
    (((.bool (Option.isSome (valK cur s))) : Value) = (.bool false)) ∧
    (bif decide (0 ≤ IntKind.wrap IntKind.i64 (Int.ofNat (n + 1) - 1)) && Nat.blt (Int.toNat (IntKind.wrap IntKind.i64 (Int.ofNat (n + 1) - 1))) (n + 1) then
     (bif Nat.blt (0 + Int.toNat (IntKind.wrap IntKind.i64 (Int.ofNat (n + 1) - 1))) (List.length (kRow n 12 (List.length cur))) && isSl (SK.enc SK.tok (List.getD (kRow n 12 (List.length cur)) (0 + Int.toNat (IntKind.wrap IntKind.i64 (Int.ofNat (n + 1) - 1))) (EK.dflt [SK.tok]))) then
      (((.pointer (some ⟨9, 0, none⟩)) : Value) = (.pointer (some ⟨9, 0, none⟩))) ∧
      (((.agg ⟨[(.int IntKind.i64 1), (.int IntKind.i64 0), (.int IntKind.i64 0), (.string s), (.string v)]⟩) : Value) = (.agg ⟨[(.int IntKind.i64 1), (.int IntKind.i64 0), (.int IntKind.i64 0), (.string s), (.string v)]⟩)) ∧
      (((.slice (slRef (SK.enc SK.tok (List.getD (kRow n 12 (List.length cur)) (0 + Int.toNat (IntKind.wrap IntKind.i64 (Int.ofNat (n + 1) - 1))) (EK.dflt [SK.tok])))) (slLen (SK.enc SK.tok (List.getD (kRow n 12 (List.length cur)) (0 + Int.toNat (IntKind.wrap IntKind.i64 (Int.ofNat (n + 1) - 1))) (EK.dflt [SK.tok])))) (slCap (SK.enc SK.tok (List.getD (kRow n 12 (List.length cur)) (0 + Int.toNat (IntKind.wrap IntKind.i64 (Int.ofNat (n + 1) - 1))) (EK.dflt [SK.tok]))))) : Value) = (.slice (some ⟨12, 0, (some 0)⟩) (List.length cur) 18446744073709551616)) ∧
      ((List.length cur = List.length cur ∧ capU = capU) ∧ List.length cur < 400000) ∧
      (((.pointer (some ⟨9, 0, none⟩)) : Value) = (.pointer (some ⟨9, 0, none⟩))) ∧
      ((List.length (withL cur 1 s v) = List.length (withL cur 1 s v) ∧ capU = capU) ∧ smallL (withL cur 1 s v)) ∧
      (((.pointer (some ⟨9, 0, none⟩)) : Value) = (.pointer (some ⟨9, 0, none⟩))) ∧
      (bif decide (costOf (withL cur 1 s v) ≤ IntKind.wrap IntKind.i64 (Int.tdiv (IntKind.wrap IntKind.i64 (IntKind.wrap IntKind.i64 (IntKind.wrap IntKind.i64 (List.getD cfg 0 0 - List.getD cfg 2 0) - 2) * 84)) 2)) then
       (R (acT cfg m n (mapR [14, 15] n cur) cur 1 0 0 s v 0 ({ data := #[] }) true 0))
      else
       (R (acT cfg m n (mapR [14, 15] n cur) cur 1 0 0 s v 4 ({ data := #[] }) false 0)))
     else
      False)
    else
     False))
  else
   False)
 else
  False)) := by kernel_rfl
noncomputable abbrev vc_ac1_0 (cfg : List Int) (n : Nat) : IObj := (.cells [(.pointer (some ⟨10, 0, none⟩)), (.int IntKind.i64 (List.getD cfg 0 0)), (.int IntKind.i64 (List.getD cfg 1 0)), (.int IntKind.i64 (List.getD cfg 2 0)), (.int IntKind.i64 (List.getD cfg 3 0)), (.int IntKind.i64 (List.getD cfg 4 0)), (.int IntKind.i64 (List.getD cfg 5 0)), (.int IntKind.i64 (List.getD cfg 6 0)), (.slice (some ⟨18, 0, (some 0)⟩) (n + 1 + 1) capU)] 0 false)
noncomputable abbrev vc_ac1_1 (cfg : List Int) (n : Nat) : IObj := (.cells [(.pointer (some ⟨10, 0, none⟩)), (.int IntKind.i64 (List.getD cfg 0 0)), (.int IntKind.i64 (List.getD cfg 1 0)), (.int IntKind.i64 (List.getD cfg 2 0)), (.int IntKind.i64 (List.getD cfg 3 0)), (.int IntKind.i64 (List.getD cfg 4 0)), (.int IntKind.i64 (List.getD cfg 5 0)), (.int IntKind.i64 (List.getD cfg 6 0)), (.slice (some ⟨11, 0, (some 0)⟩) (n + 1) capU)] 0 false)
theorem vc_ac1 (cfg : List Int) (m : MSt) (n : Nat) (cur : List (EK.C kSS)) (s v : ByteArray) (we : Int) (wv : ByteArray) (u : Bool) (e : Int) (Q : Value → List (Option IObj) → Prop) (R : Cfg → Prop) : VCs XAc (pfAc (hint12 cur) 1 s v) f_drumlinlaw42_known_act [9, 10, 11, 12, 16, 17, 18] acS Q R 600 (acT cfg m n (kRow n 12 cur.length) cur 1 0 0 s v we wv u e) = (
 (bif decide (e ≤ 17) then
  (bif !(e == we && (ByteArray.toList { data := #[] } == ByteArray.toList wv && true)) then
   (bif e != 11 then
    (List.length (MSt.base m) < 1000000 ∧ List.length (MSt.now m) < 1000000 ∧ List.length (MSt.ups m) < 1000000) ∧
    (((.agg ⟨[(.int IntKind.i64 e), (.string ({ data := #[] }))]⟩) : Value) = (.agg ⟨[(.int IntKind.i64 e), (.string ({ data := #[] }))]⟩)) ∧
    (((.agg ⟨[(.int IntKind.i64 1), (.int IntKind.i64 0), (.int IntKind.i64 0), (.string s), (.string v)]⟩) : Value) = (.agg ⟨[(.int IntKind.i64 1), (.int IntKind.i64 0), (.int IntKind.i64 0), (.string s), (.string v)]⟩)) ∧
    (DoOk m 1 0 0 s v e { data := #[] }) ∧
    (bif doE m 1 0 0 s v e { data := #[] } != 7 then
     (Q (.bool false) [some (vc_ac1_1 cfg n), some (.abs (Abs.pack (Pk.model m)) false), some (.vec [SK.tok] (kRow n 12 (List.length cur)) false), some (.vec kSS cur false), some (.abs (Abs.pack (Pk.model (doNx m 1 0 0 s v e { data := #[] }))) false), none, none])
    else
     (R (acT cfg m n (mapR [13, 14] n cur) cur 1 0 0 s v we wv u (IntKind.wrap IntKind.i64 (e + 1)))))
   else
    (R (acT cfg m n (mapR [13, 14] n cur) cur 1 0 0 s v we wv u (IntKind.wrap IntKind.i64 (e + 1)))))
  else
   (R (acT cfg m n (mapR [13, 14] n cur) cur 1 0 0 s v we wv u (IntKind.wrap IntKind.i64 (e + 1)))))
 else
  (bif u then
   (List.length (MSt.base m) < 1000000 ∧ List.length (MSt.now m) < 1000000 ∧ List.length (MSt.ups m) < 1000000) ∧
   (((.bool u) : Value) = (.bool true)) ∧
   (((.agg ⟨[(.int IntKind.i64 11), (.string ({ data := #[] }))]⟩) : Value) = (.agg ⟨[(.int IntKind.i64 11), (.string ({ data := #[] }))]⟩)) ∧
   (((.agg ⟨[(.int IntKind.i64 1), (.int IntKind.i64 0), (.int IntKind.i64 0), (.string s), (.string v)]⟩) : Value) = (.agg ⟨[(.int IntKind.i64 1), (.int IntKind.i64 0), (.int IntKind.i64 0), (.string s), (.string v)]⟩)) ∧
   (DoOk m 1 0 0 s v 11 { data := #[] }) ∧
   (((.bool u) : Value) = (.bool true)) ∧
   (bif doE m 1 0 0 s v 11 { data := #[] } == 0 then
    (DoOk m 1 0 0 s v we wv) ∧
    (bif doE m 1 0 0 s v we wv != 0 then
     (Q (.bool false) [some (vc_ac1_1 cfg n), some (.abs (Abs.pack (Pk.model (doNx m 1 0 0 s v we wv))) false), some (.vec [SK.tok] (kRow n 12 (List.length cur)) false), some (.vec kSS cur false), none, none, none])
    else
     (bif u then
      (bif decide (0 ≤ IntKind.wrap IntKind.i64 (Int.ofNat (n + 1) - 1)) && Nat.blt (Int.toNat (IntKind.wrap IntKind.i64 (Int.ofNat (n + 1) - 1))) (n + 1) then
       (bif Nat.blt (0 + Int.toNat (IntKind.wrap IntKind.i64 (Int.ofNat (n + 1) - 1))) (List.length (kRow n 12 (List.length cur))) && isSl (SK.enc SK.tok (List.getD (kRow n 12 (List.length cur)) (0 + Int.toNat (IntKind.wrap IntKind.i64 (Int.ofNat (n + 1) - 1))) (EK.dflt [SK.tok]))) then
        (((.agg ⟨[(.int IntKind.i64 1), (.int IntKind.i64 0), (.int IntKind.i64 0), (.string s), (.string v)]⟩) : Value) = (.agg ⟨[(.int IntKind.i64 1), (.int IntKind.i64 0), (.int IntKind.i64 0), (.string s), (.string v)]⟩)) ∧
        (((.slice (some ⟨11, 0, (some 0)⟩) (n + 1) 18446744073709551616) : Value) = (.slice (some ⟨11, 0, (some 0)⟩) (n + 1) 18446744073709551616)) ∧
        (((.pointer (some ⟨9, 8, none⟩)) : Value) = (.pointer (some ⟨9, 8, none⟩))) ∧
        (((.pointer (some ⟨9, 0, none⟩)) : Value) = (.pointer (some ⟨9, 0, none⟩))) ∧
        (((.pointer (some ⟨9, 0, none⟩)) : Value) = (.pointer (some ⟨9, 0, none⟩))) ∧
        (((.pointer (some ⟨9, 0, none⟩)) : Value) = (.pointer (some ⟨9, 0, none⟩))) ∧
        (((.slice (slRef (SK.enc SK.tok (List.getD (kRow n 12 (List.length cur)) (0 + Int.toNat (IntKind.wrap IntKind.i64 (Int.ofNat (n + 1) - 1))) (EK.dflt [SK.tok])))) (slLen (SK.enc SK.tok (List.getD (kRow n 12 (List.length cur)) (0 + Int.toNat (IntKind.wrap IntKind.i64 (Int.ofNat (n + 1) - 1))) (EK.dflt [SK.tok])))) (slCap (SK.enc SK.tok (List.getD (kRow n 12 (List.length cur)) (0 + Int.toNat (IntKind.wrap IntKind.i64 (Int.ofNat (n + 1) - 1))) (EK.dflt [SK.tok]))))) : Value) = (.slice (some ⟨12, 0, (some 0)⟩) (List.length cur) 18446744073709551616)) ∧
        ((List.length cur = List.length cur ∧ capU = capU) ∧ List.length cur < 400000) ∧
        (((.slice (some ⟨11, 0, (some 0)⟩) (n + 1) 18446744073709551616) : Value) = (.slice (some ⟨11, 0, (some 0)⟩) (n + 1) 18446744073709551616)) ∧
        (((.pointer (some ⟨9, 8, none⟩)) : Value) = (.pointer (some ⟨9, 8, none⟩))) ∧
        (((.pointer (some ⟨9, 0, none⟩)) : Value) = (.pointer (some ⟨9, 0, none⟩))) ∧
        (((.pointer (some ⟨9, 0, none⟩)) : Value) = (.pointer (some ⟨9, 0, none⟩))) ∧
        (((.pointer (some ⟨9, 0, none⟩)) : Value) = (.pointer (some ⟨9, 0, none⟩))) ∧
        (bif true && Nat.ble (0 + (n + 1)) (List.length (kRow n 12 (List.length cur))) && bigOk 24 (n + 1 + 1) then
         (((.pointer (some ⟨9, 0, none⟩)) : Value) = (.pointer (some ⟨9, 0, none⟩))) ∧
         (Q (.bool true) [some (vc_ac1_0 cfg n), some (.abs (Abs.pack (Pk.model (doNx m 1 0 0 s v we wv))) false), none, some (.vec kSS cur false), some (.vec ([SK.str, SK.str]) (withL cur 1 s v) false), some (.cells [(.slice (some ⟨16, 0, (some 0)⟩) (List.length (withL cur 1 s v)) 18446744073709551616)] 1 false), some (.vec [SK.tok] ((List.take (n + 1) (List.drop 0 (kRow n 12 (List.length cur)))) ++ [(.slice (some ⟨16, 0, (some 0)⟩) (List.length (withL cur 1 s v)) 18446744073709551616)]) false)])
        else
         False)
       else
        False)
      else
       False)
     else
      (Q (.bool true) [some (vc_ac1_1 cfg n), some (.abs (Abs.pack (Pk.model (doNx m 1 0 0 s v we wv))) false), some (.vec [SK.tok] (kRow n 12 (List.length cur)) false), some (.vec kSS cur false), none, none, none])))
   else
    (Q (.bool false) [some (vc_ac1_1 cfg n), some (.abs (Abs.pack (Pk.model m)) false), some (.vec [SK.tok] (kRow n 12 (List.length cur)) false), some (.vec kSS cur false), none, none, none]))
  else
   (List.length (MSt.base m) < 1000000 ∧ List.length (MSt.now m) < 1000000 ∧ List.length (MSt.ups m) < 1000000) ∧
   (((.bool u) : Value) = (.bool false)) ∧
   (((.agg ⟨[(.int IntKind.i64 11), (.string ({ data := #[] }))]⟩) : Value) = (.agg ⟨[(.int IntKind.i64 11), (.string ({ data := #[] }))]⟩)) ∧
   (((.agg ⟨[(.int IntKind.i64 1), (.int IntKind.i64 0), (.int IntKind.i64 0), (.string s), (.string v)]⟩) : Value) = (.agg ⟨[(.int IntKind.i64 1), (.int IntKind.i64 0), (.int IntKind.i64 0), (.string s), (.string v)]⟩)) ∧
   (DoOk m 1 0 0 s v 11 { data := #[] }) ∧
   (((.bool u) : Value) = (.bool false)) ∧
   (bif doE m 1 0 0 s v 11 { data := #[] } == 0 then
    (Q (.bool false) [some (vc_ac1_1 cfg n), some (.abs (Abs.pack (Pk.model m)) false), some (.vec [SK.tok] (kRow n 12 (List.length cur)) false), some (.vec kSS cur false), none, none, none])
   else
    (DoOk m 1 0 0 s v we wv) ∧
    (bif doE m 1 0 0 s v we wv != 0 then
     (Q (.bool false) [some (vc_ac1_1 cfg n), some (.abs (Abs.pack (Pk.model (doNx m 1 0 0 s v we wv))) false), some (.vec [SK.tok] (kRow n 12 (List.length cur)) false), some (.vec kSS cur false), none, none, none])
    else
     (bif u then
      (bif decide (0 ≤ IntKind.wrap IntKind.i64 (Int.ofNat (n + 1) - 1)) && Nat.blt (Int.toNat (IntKind.wrap IntKind.i64 (Int.ofNat (n + 1) - 1))) (n + 1) then
       (bif Nat.blt (0 + Int.toNat (IntKind.wrap IntKind.i64 (Int.ofNat (n + 1) - 1))) (List.length (kRow n 12 (List.length cur))) && isSl (SK.enc SK.tok (List.getD (kRow n 12 (List.length cur)) (0 + Int.toNat (IntKind.wrap IntKind.i64 (Int.ofNat (n + 1) - 1))) (EK.dflt [SK.tok]))) then
        (((.agg ⟨[(.int IntKind.i64 1), (.int IntKind.i64 0), (.int IntKind.i64 0), (.string s), (.string v)]⟩) : Value) = (.agg ⟨[(.int IntKind.i64 1), (.int IntKind.i64 0), (.int IntKind.i64 0), (.string s), (.string v)]⟩)) ∧
        (((.slice (some ⟨11, 0, (some 0)⟩) (n + 1) 18446744073709551616) : Value) = (.slice (some ⟨11, 0, (some 0)⟩) (n + 1) 18446744073709551616)) ∧
        (((.pointer (some ⟨9, 8, none⟩)) : Value) = (.pointer (some ⟨9, 8, none⟩))) ∧
        (((.pointer (some ⟨9, 0, none⟩)) : Value) = (.pointer (some ⟨9, 0, none⟩))) ∧
        (((.pointer (some ⟨9, 0, none⟩)) : Value) = (.pointer (some ⟨9, 0, none⟩))) ∧
        (((.pointer (some ⟨9, 0, none⟩)) : Value) = (.pointer (some ⟨9, 0, none⟩))) ∧
        (((.slice (slRef (SK.enc SK.tok (List.getD (kRow n 12 (List.length cur)) (0 + Int.toNat (IntKind.wrap IntKind.i64 (Int.ofNat (n + 1) - 1))) (EK.dflt [SK.tok])))) (slLen (SK.enc SK.tok (List.getD (kRow n 12 (List.length cur)) (0 + Int.toNat (IntKind.wrap IntKind.i64 (Int.ofNat (n + 1) - 1))) (EK.dflt [SK.tok])))) (slCap (SK.enc SK.tok (List.getD (kRow n 12 (List.length cur)) (0 + Int.toNat (IntKind.wrap IntKind.i64 (Int.ofNat (n + 1) - 1))) (EK.dflt [SK.tok]))))) : Value) = (.slice (some ⟨12, 0, (some 0)⟩) (List.length cur) 18446744073709551616)) ∧
        ((List.length cur = List.length cur ∧ capU = capU) ∧ List.length cur < 400000) ∧
        (((.slice (some ⟨11, 0, (some 0)⟩) (n + 1) 18446744073709551616) : Value) = (.slice (some ⟨11, 0, (some 0)⟩) (n + 1) 18446744073709551616)) ∧
        (((.pointer (some ⟨9, 8, none⟩)) : Value) = (.pointer (some ⟨9, 8, none⟩))) ∧
        (((.pointer (some ⟨9, 0, none⟩)) : Value) = (.pointer (some ⟨9, 0, none⟩))) ∧
        (((.pointer (some ⟨9, 0, none⟩)) : Value) = (.pointer (some ⟨9, 0, none⟩))) ∧
        (((.pointer (some ⟨9, 0, none⟩)) : Value) = (.pointer (some ⟨9, 0, none⟩))) ∧
        (bif true && Nat.ble (0 + (n + 1)) (List.length (kRow n 12 (List.length cur))) && bigOk 24 (n + 1 + 1) then
         (((.pointer (some ⟨9, 0, none⟩)) : Value) = (.pointer (some ⟨9, 0, none⟩))) ∧
         (Q (.bool true) [some (vc_ac1_0 cfg n), some (.abs (Abs.pack (Pk.model (doNx m 1 0 0 s v we wv))) false), none, some (.vec kSS cur false), some (.vec ([SK.str, SK.str]) (withL cur 1 s v) false), some (.cells [(.slice (some ⟨16, 0, (some 0)⟩) (List.length (withL cur 1 s v)) 18446744073709551616)] 1 false), some (.vec [SK.tok] ((List.take (n + 1) (List.drop 0 (kRow n 12 (List.length cur)))) ++ [(.slice (some ⟨16, 0, (some 0)⟩) (List.length (withL cur 1 s v)) 18446744073709551616)]) false)])
        else
         False)
       else
        False)
      else
       False)
     else
      (Q (.bool true) [some (vc_ac1_1 cfg n), some (.abs (Abs.pack (Pk.model (doNx m 1 0 0 s v we wv))) false), some (.vec [SK.tok] (kRow n 12 (List.length cur)) false), some (.vec kSS cur false), none, none, none]))))))) := by kernel_rfl
theorem vc_ac02 (cfg : List Int) (m : MSt) (n : Nat) (cur : List (EK.C kSS)) (kind key val : Int) (s v : ByteArray) (Q : Value → List (Option IObj) → Prop) (R : Cfg → Prop) : VCs XAc (pfAc (hint12 cur) 2 s v) f_drumlinlaw42_known_act [9, 10, 11, 12] acS Q R 400 (st f_drumlinlaw42_known_act 116 [p9, .agg ⟨[.int .u8 kind, .int .u8 key, .int .u8 val]⟩] (hKn cfg m n cur)) = (
 ((isB kind ∧ isB key ∧ isB val) ∧ aK kind = 2 ∧ aS kind key = s ∧ aV kind val = v) ∧
 (bif decide (0 ≤ IntKind.wrap IntKind.i64 (Int.ofNat (n + 1) - 1)) && Nat.blt (Int.toNat (IntKind.wrap IntKind.i64 (Int.ofNat (n + 1) - 1))) (n + 1) then
  (bif Nat.blt (0 + Int.toNat (IntKind.wrap IntKind.i64 (Int.ofNat (n + 1) - 1))) (List.length (kRow n 12 (List.length cur))) && isSl (SK.enc SK.tok (List.getD (kRow n 12 (List.length cur)) (0 + Int.toNat (IntKind.wrap IntKind.i64 (Int.ofNat (n + 1) - 1))) (EK.dflt [SK.tok]))) then
   (((.string s) : Value) = (.string s)) ∧
   (((.pointer (some ⟨14, 3, none⟩)) : Value) = (.pointer (some ⟨14, 3, none⟩))) ∧
   (((.slice (slRef (SK.enc SK.tok (List.getD (kRow n 12 (List.length cur)) (0 + Int.toNat (IntKind.wrap IntKind.i64 (Int.ofNat (n + 1) - 1))) (EK.dflt [SK.tok])))) (slLen (SK.enc SK.tok (List.getD (kRow n 12 (List.length cur)) (0 + Int.toNat (IntKind.wrap IntKind.i64 (Int.ofNat (n + 1) - 1))) (EK.dflt [SK.tok])))) (slCap (SK.enc SK.tok (List.getD (kRow n 12 (List.length cur)) (0 + Int.toNat (IntKind.wrap IntKind.i64 (Int.ofNat (n + 1) - 1))) (EK.dflt [SK.tok]))))) : Value) = (.slice (some ⟨12, 0, (some 0)⟩) (List.length cur) 18446744073709551616)) ∧
   ((List.length cur = List.length cur ∧ capU = capU) ∧ List.length cur < 1000000) ∧
   (bif Option.isSome (valK cur s) then
    (((.bool (Option.isSome (valK cur s))) : Value) = (.bool true)) ∧
    (R (acT cfg m n (mapR [14, 15] n cur) cur 2 0 0 s v 0 (Option.getD (valK cur s) e0) false 0))
   else
    (((.bool (Option.isSome (valK cur s))) : Value) = (.bool false)) ∧
    (R (acT cfg m n (mapR [14, 15] n cur) cur 2 0 0 s v 5 (Option.getD (valK cur s) e0) false 0)))
  else
   False)
 else
  False)) := by kernel_rfl
noncomputable abbrev vc_ac2_0 (cfg : List Int) (n : Nat) : IObj := (.cells [(.pointer (some ⟨10, 0, none⟩)), (.int IntKind.i64 (List.getD cfg 0 0)), (.int IntKind.i64 (List.getD cfg 1 0)), (.int IntKind.i64 (List.getD cfg 2 0)), (.int IntKind.i64 (List.getD cfg 3 0)), (.int IntKind.i64 (List.getD cfg 4 0)), (.int IntKind.i64 (List.getD cfg 5 0)), (.int IntKind.i64 (List.getD cfg 6 0)), (.slice (some ⟨11, 0, (some 0)⟩) (n + 1) capU)] 0 false)
theorem vc_ac2 (cfg : List Int) (m : MSt) (n : Nat) (cur : List (EK.C kSS)) (s v : ByteArray) (we : Int) (wv : ByteArray) (e : Int) (Q : Value → List (Option IObj) → Prop) (R : Cfg → Prop) : VCs XAc (pfAc (hint12 cur) 2 s v) f_drumlinlaw42_known_act [9, 10, 11, 12, 16, 17, 18] acS Q R 600 (acT cfg m n (kRow n 12 cur.length) cur 2 0 0 s v we wv false e) = (
 (bif decide (e ≤ 17) then
  (bif !(e == we && (ByteArray.toList { data := #[] } == ByteArray.toList wv && true)) then
   (bif e != 11 then
    (List.length (MSt.base m) < 1000000 ∧ List.length (MSt.now m) < 1000000 ∧ List.length (MSt.ups m) < 1000000) ∧
    (((.agg ⟨[(.int IntKind.i64 e), (.string ({ data := #[] }))]⟩) : Value) = (.agg ⟨[(.int IntKind.i64 e), (.string ({ data := #[] }))]⟩)) ∧
    (((.agg ⟨[(.int IntKind.i64 2), (.int IntKind.i64 0), (.int IntKind.i64 0), (.string s), (.string v)]⟩) : Value) = (.agg ⟨[(.int IntKind.i64 2), (.int IntKind.i64 0), (.int IntKind.i64 0), (.string s), (.string v)]⟩)) ∧
    (DoOk m 2 0 0 s v e { data := #[] }) ∧
    (bif doE m 2 0 0 s v e { data := #[] } != 7 then
     (Q (.bool false) [some (vc_ac2_0 cfg n), some (.abs (Abs.pack (Pk.model m)) false), some (.vec [SK.tok] (kRow n 12 (List.length cur)) false), some (.vec kSS cur false), some (.abs (Abs.pack (Pk.model (doNx m 2 0 0 s v e { data := #[] }))) false), none, none])
    else
     (R (acT cfg m n (mapR [13, 14] n cur) cur 2 0 0 s v we wv false (IntKind.wrap IntKind.i64 (e + 1)))))
   else
    (R (acT cfg m n (mapR [13, 14] n cur) cur 2 0 0 s v we wv false (IntKind.wrap IntKind.i64 (e + 1)))))
  else
   (R (acT cfg m n (mapR [13, 14] n cur) cur 2 0 0 s v we wv false (IntKind.wrap IntKind.i64 (e + 1)))))
 else
  (List.length (MSt.base m) < 1000000 ∧ List.length (MSt.now m) < 1000000 ∧ List.length (MSt.ups m) < 1000000) ∧
  (((.bool false) : Value) = (.bool false)) ∧
  (((.agg ⟨[(.int IntKind.i64 11), (.string ({ data := #[] }))]⟩) : Value) = (.agg ⟨[(.int IntKind.i64 11), (.string ({ data := #[] }))]⟩)) ∧
  (((.agg ⟨[(.int IntKind.i64 2), (.int IntKind.i64 0), (.int IntKind.i64 0), (.string s), (.string v)]⟩) : Value) = (.agg ⟨[(.int IntKind.i64 2), (.int IntKind.i64 0), (.int IntKind.i64 0), (.string s), (.string v)]⟩)) ∧
  (DoOk m 2 0 0 s v 11 { data := #[] }) ∧
  (((.bool false) : Value) = (.bool false)) ∧
  (bif doE m 2 0 0 s v 11 { data := #[] } == 0 then
   (Q (.bool false) [some (vc_ac2_0 cfg n), some (.abs (Abs.pack (Pk.model m)) false), some (.vec [SK.tok] (kRow n 12 (List.length cur)) false), some (.vec kSS cur false), none, none, none])
  else
   (DoOk m 2 0 0 s v we wv) ∧
   (bif doE m 2 0 0 s v we wv != 0 then
    (Q (.bool false) [some (vc_ac2_0 cfg n), some (.abs (Abs.pack (Pk.model (doNx m 2 0 0 s v we wv))) false), some (.vec [SK.tok] (kRow n 12 (List.length cur)) false), some (.vec kSS cur false), none, none, none])
   else
    (Q (.bool true) [some (vc_ac2_0 cfg n), some (.abs (Abs.pack (Pk.model (doNx m 2 0 0 s v we wv))) false), some (.vec [SK.tok] (kRow n 12 (List.length cur)) false), some (.vec kSS cur false), none, none, none]))))) := by kernel_rfl
theorem vc_ac03 (cfg : List Int) (m : MSt) (n : Nat) (cur : List (EK.C kSS)) (kind key val : Int) (s v : ByteArray) (Q : Value → List (Option IObj) → Prop) (R : Cfg → Prop) : VCs XAc (pfAc (hint12 cur) 3 s v) f_drumlinlaw42_known_act [9, 10, 11, 12] acS Q R 400 (st f_drumlinlaw42_known_act 116 [p9, .agg ⟨[.int .u8 kind, .int .u8 key, .int .u8 val]⟩] (hKn cfg m n cur)) = (
 ((isB kind ∧ isB key ∧ isB val) ∧ aK kind = 3 ∧ aS kind key = s ∧ aV kind val = v) ∧
 (bif decide (0 ≤ IntKind.wrap IntKind.i64 (Int.ofNat (n + 1) - 1)) && Nat.blt (Int.toNat (IntKind.wrap IntKind.i64 (Int.ofNat (n + 1) - 1))) (n + 1) then
  (bif Nat.blt (0 + Int.toNat (IntKind.wrap IntKind.i64 (Int.ofNat (n + 1) - 1))) (List.length (kRow n 12 (List.length cur))) && isSl (SK.enc SK.tok (List.getD (kRow n 12 (List.length cur)) (0 + Int.toNat (IntKind.wrap IntKind.i64 (Int.ofNat (n + 1) - 1))) (EK.dflt [SK.tok]))) then
   (((.string s) : Value) = (.string s)) ∧
   (((.pointer (some ⟨14, 3, none⟩)) : Value) = (.pointer (some ⟨14, 3, none⟩))) ∧
   (((.slice (slRef (SK.enc SK.tok (List.getD (kRow n 12 (List.length cur)) (0 + Int.toNat (IntKind.wrap IntKind.i64 (Int.ofNat (n + 1) - 1))) (EK.dflt [SK.tok])))) (slLen (SK.enc SK.tok (List.getD (kRow n 12 (List.length cur)) (0 + Int.toNat (IntKind.wrap IntKind.i64 (Int.ofNat (n + 1) - 1))) (EK.dflt [SK.tok])))) (slCap (SK.enc SK.tok (List.getD (kRow n 12 (List.length cur)) (0 + Int.toNat (IntKind.wrap IntKind.i64 (Int.ofNat (n + 1) - 1))) (EK.dflt [SK.tok]))))) : Value) = (.slice (some ⟨12, 0, (some 0)⟩) (List.length cur) 18446744073709551616)) ∧
   ((List.length cur = List.length cur ∧ capU = capU) ∧ List.length cur < 1000000) ∧
   (bif Option.isSome (valK cur s) then
    (((.bool (Option.isSome (valK cur s))) : Value) = (.bool true)) ∧
    (R (acT cfg m n (mapR [14, 15] n cur) cur 3 0 0 s v 0 ({ data := #[] }) true 0))
   else
    (((.bool (Option.isSome (valK cur s))) : Value) = (.bool false)) ∧
    (R (acT cfg m n (mapR [14, 15] n cur) cur 3 0 0 s v 0 ({ data := #[] }) false 0)))
  else
   False)
 else
  False)) := by kernel_rfl
noncomputable abbrev vc_ac3_0 (cfg : List Int) (n : Nat) : IObj := (.cells [(.pointer (some ⟨10, 0, none⟩)), (.int IntKind.i64 (List.getD cfg 0 0)), (.int IntKind.i64 (List.getD cfg 1 0)), (.int IntKind.i64 (List.getD cfg 2 0)), (.int IntKind.i64 (List.getD cfg 3 0)), (.int IntKind.i64 (List.getD cfg 4 0)), (.int IntKind.i64 (List.getD cfg 5 0)), (.int IntKind.i64 (List.getD cfg 6 0)), (.slice (some ⟨18, 0, (some 0)⟩) (n + 1 + 1) capU)] 0 false)
noncomputable abbrev vc_ac3_1 (cfg : List Int) (n : Nat) : IObj := (.cells [(.pointer (some ⟨10, 0, none⟩)), (.int IntKind.i64 (List.getD cfg 0 0)), (.int IntKind.i64 (List.getD cfg 1 0)), (.int IntKind.i64 (List.getD cfg 2 0)), (.int IntKind.i64 (List.getD cfg 3 0)), (.int IntKind.i64 (List.getD cfg 4 0)), (.int IntKind.i64 (List.getD cfg 5 0)), (.int IntKind.i64 (List.getD cfg 6 0)), (.slice (some ⟨11, 0, (some 0)⟩) (n + 1) capU)] 0 false)
theorem vc_ac3 (cfg : List Int) (m : MSt) (n : Nat) (cur : List (EK.C kSS)) (s v : ByteArray) (we : Int) (wv : ByteArray) (u : Bool) (e : Int) (Q : Value → List (Option IObj) → Prop) (R : Cfg → Prop) : VCs XAc (pfAc (hint12 cur) 3 s v) f_drumlinlaw42_known_act [9, 10, 11, 12, 16, 17, 18] acS Q R 600 (acT cfg m n (kRow n 12 cur.length) cur 3 0 0 s v we wv u e) = (
 (bif decide (e ≤ 17) then
  (bif !(e == we && (ByteArray.toList { data := #[] } == ByteArray.toList wv && true)) then
   (bif e != 11 then
    (List.length (MSt.base m) < 1000000 ∧ List.length (MSt.now m) < 1000000 ∧ List.length (MSt.ups m) < 1000000) ∧
    (((.agg ⟨[(.int IntKind.i64 e), (.string ({ data := #[] }))]⟩) : Value) = (.agg ⟨[(.int IntKind.i64 e), (.string ({ data := #[] }))]⟩)) ∧
    (((.agg ⟨[(.int IntKind.i64 3), (.int IntKind.i64 0), (.int IntKind.i64 0), (.string s), (.string v)]⟩) : Value) = (.agg ⟨[(.int IntKind.i64 3), (.int IntKind.i64 0), (.int IntKind.i64 0), (.string s), (.string v)]⟩)) ∧
    (DoOk m 3 0 0 s v e { data := #[] }) ∧
    (bif doE m 3 0 0 s v e { data := #[] } != 7 then
     (Q (.bool false) [some (vc_ac3_1 cfg n), some (.abs (Abs.pack (Pk.model m)) false), some (.vec [SK.tok] (kRow n 12 (List.length cur)) false), some (.vec kSS cur false), some (.abs (Abs.pack (Pk.model (doNx m 3 0 0 s v e { data := #[] }))) false), none, none])
    else
     (R (acT cfg m n (mapR [13, 14] n cur) cur 3 0 0 s v we wv u (IntKind.wrap IntKind.i64 (e + 1)))))
   else
    (R (acT cfg m n (mapR [13, 14] n cur) cur 3 0 0 s v we wv u (IntKind.wrap IntKind.i64 (e + 1)))))
  else
   (R (acT cfg m n (mapR [13, 14] n cur) cur 3 0 0 s v we wv u (IntKind.wrap IntKind.i64 (e + 1)))))
 else
  (bif u then
   (List.length (MSt.base m) < 1000000 ∧ List.length (MSt.now m) < 1000000 ∧ List.length (MSt.ups m) < 1000000) ∧
   (((.bool u) : Value) = (.bool true)) ∧
   (((.agg ⟨[(.int IntKind.i64 11), (.string ({ data := #[] }))]⟩) : Value) = (.agg ⟨[(.int IntKind.i64 11), (.string ({ data := #[] }))]⟩)) ∧
   (((.agg ⟨[(.int IntKind.i64 3), (.int IntKind.i64 0), (.int IntKind.i64 0), (.string s), (.string v)]⟩) : Value) = (.agg ⟨[(.int IntKind.i64 3), (.int IntKind.i64 0), (.int IntKind.i64 0), (.string s), (.string v)]⟩)) ∧
   (DoOk m 3 0 0 s v 11 { data := #[] }) ∧
   (((.bool u) : Value) = (.bool true)) ∧
   (bif doE m 3 0 0 s v 11 { data := #[] } == 0 then
    (DoOk m 3 0 0 s v we wv) ∧
    (bif doE m 3 0 0 s v we wv != 0 then
     (Q (.bool false) [some (vc_ac3_1 cfg n), some (.abs (Abs.pack (Pk.model (doNx m 3 0 0 s v we wv))) false), some (.vec [SK.tok] (kRow n 12 (List.length cur)) false), some (.vec kSS cur false), none, none, none])
    else
     (bif u then
      (bif decide (0 ≤ IntKind.wrap IntKind.i64 (Int.ofNat (n + 1) - 1)) && Nat.blt (Int.toNat (IntKind.wrap IntKind.i64 (Int.ofNat (n + 1) - 1))) (n + 1) then
       (bif Nat.blt (0 + Int.toNat (IntKind.wrap IntKind.i64 (Int.ofNat (n + 1) - 1))) (List.length (kRow n 12 (List.length cur))) && isSl (SK.enc SK.tok (List.getD (kRow n 12 (List.length cur)) (0 + Int.toNat (IntKind.wrap IntKind.i64 (Int.ofNat (n + 1) - 1))) (EK.dflt [SK.tok]))) then
        (((.agg ⟨[(.int IntKind.i64 3), (.int IntKind.i64 0), (.int IntKind.i64 0), (.string s), (.string v)]⟩) : Value) = (.agg ⟨[(.int IntKind.i64 3), (.int IntKind.i64 0), (.int IntKind.i64 0), (.string s), (.string v)]⟩)) ∧
        (((.slice (some ⟨11, 0, (some 0)⟩) (n + 1) 18446744073709551616) : Value) = (.slice (some ⟨11, 0, (some 0)⟩) (n + 1) 18446744073709551616)) ∧
        (((.pointer (some ⟨9, 8, none⟩)) : Value) = (.pointer (some ⟨9, 8, none⟩))) ∧
        (((.pointer (some ⟨9, 0, none⟩)) : Value) = (.pointer (some ⟨9, 0, none⟩))) ∧
        (((.pointer (some ⟨9, 0, none⟩)) : Value) = (.pointer (some ⟨9, 0, none⟩))) ∧
        (((.pointer (some ⟨9, 0, none⟩)) : Value) = (.pointer (some ⟨9, 0, none⟩))) ∧
        (((.slice (slRef (SK.enc SK.tok (List.getD (kRow n 12 (List.length cur)) (0 + Int.toNat (IntKind.wrap IntKind.i64 (Int.ofNat (n + 1) - 1))) (EK.dflt [SK.tok])))) (slLen (SK.enc SK.tok (List.getD (kRow n 12 (List.length cur)) (0 + Int.toNat (IntKind.wrap IntKind.i64 (Int.ofNat (n + 1) - 1))) (EK.dflt [SK.tok])))) (slCap (SK.enc SK.tok (List.getD (kRow n 12 (List.length cur)) (0 + Int.toNat (IntKind.wrap IntKind.i64 (Int.ofNat (n + 1) - 1))) (EK.dflt [SK.tok]))))) : Value) = (.slice (some ⟨12, 0, (some 0)⟩) (List.length cur) 18446744073709551616)) ∧
        ((List.length cur = List.length cur ∧ capU = capU) ∧ List.length cur < 400000) ∧
        (((.slice (some ⟨11, 0, (some 0)⟩) (n + 1) 18446744073709551616) : Value) = (.slice (some ⟨11, 0, (some 0)⟩) (n + 1) 18446744073709551616)) ∧
        (((.pointer (some ⟨9, 8, none⟩)) : Value) = (.pointer (some ⟨9, 8, none⟩))) ∧
        (((.pointer (some ⟨9, 0, none⟩)) : Value) = (.pointer (some ⟨9, 0, none⟩))) ∧
        (((.pointer (some ⟨9, 0, none⟩)) : Value) = (.pointer (some ⟨9, 0, none⟩))) ∧
        (((.pointer (some ⟨9, 0, none⟩)) : Value) = (.pointer (some ⟨9, 0, none⟩))) ∧
        (bif true && Nat.ble (0 + (n + 1)) (List.length (kRow n 12 (List.length cur))) && bigOk 24 (n + 1 + 1) then
         (((.pointer (some ⟨9, 0, none⟩)) : Value) = (.pointer (some ⟨9, 0, none⟩))) ∧
         (Q (.bool true) [some (vc_ac3_0 cfg n), some (.abs (Abs.pack (Pk.model (doNx m 3 0 0 s v we wv))) false), none, some (.vec kSS cur false), some (.vec ([SK.str, SK.str]) (withL cur 3 s v) false), some (.cells [(.slice (some ⟨16, 0, (some 0)⟩) (List.length (withL cur 3 s v)) 18446744073709551616)] 1 false), some (.vec [SK.tok] ((List.take (n + 1) (List.drop 0 (kRow n 12 (List.length cur)))) ++ [(.slice (some ⟨16, 0, (some 0)⟩) (List.length (withL cur 3 s v)) 18446744073709551616)]) false)])
        else
         False)
       else
        False)
      else
       False)
     else
      (Q (.bool true) [some (vc_ac3_1 cfg n), some (.abs (Abs.pack (Pk.model (doNx m 3 0 0 s v we wv))) false), some (.vec [SK.tok] (kRow n 12 (List.length cur)) false), some (.vec kSS cur false), none, none, none])))
   else
    (Q (.bool false) [some (vc_ac3_1 cfg n), some (.abs (Abs.pack (Pk.model m)) false), some (.vec [SK.tok] (kRow n 12 (List.length cur)) false), some (.vec kSS cur false), none, none, none]))
  else
   (List.length (MSt.base m) < 1000000 ∧ List.length (MSt.now m) < 1000000 ∧ List.length (MSt.ups m) < 1000000) ∧
   (((.bool u) : Value) = (.bool false)) ∧
   (((.agg ⟨[(.int IntKind.i64 11), (.string ({ data := #[] }))]⟩) : Value) = (.agg ⟨[(.int IntKind.i64 11), (.string ({ data := #[] }))]⟩)) ∧
   (((.agg ⟨[(.int IntKind.i64 3), (.int IntKind.i64 0), (.int IntKind.i64 0), (.string s), (.string v)]⟩) : Value) = (.agg ⟨[(.int IntKind.i64 3), (.int IntKind.i64 0), (.int IntKind.i64 0), (.string s), (.string v)]⟩)) ∧
   (DoOk m 3 0 0 s v 11 { data := #[] }) ∧
   (((.bool u) : Value) = (.bool false)) ∧
   (bif doE m 3 0 0 s v 11 { data := #[] } == 0 then
    (Q (.bool false) [some (vc_ac3_1 cfg n), some (.abs (Abs.pack (Pk.model m)) false), some (.vec [SK.tok] (kRow n 12 (List.length cur)) false), some (.vec kSS cur false), none, none, none])
   else
    (DoOk m 3 0 0 s v we wv) ∧
    (bif doE m 3 0 0 s v we wv != 0 then
     (Q (.bool false) [some (vc_ac3_1 cfg n), some (.abs (Abs.pack (Pk.model (doNx m 3 0 0 s v we wv))) false), some (.vec [SK.tok] (kRow n 12 (List.length cur)) false), some (.vec kSS cur false), none, none, none])
    else
     (bif u then
      (bif decide (0 ≤ IntKind.wrap IntKind.i64 (Int.ofNat (n + 1) - 1)) && Nat.blt (Int.toNat (IntKind.wrap IntKind.i64 (Int.ofNat (n + 1) - 1))) (n + 1) then
       (bif Nat.blt (0 + Int.toNat (IntKind.wrap IntKind.i64 (Int.ofNat (n + 1) - 1))) (List.length (kRow n 12 (List.length cur))) && isSl (SK.enc SK.tok (List.getD (kRow n 12 (List.length cur)) (0 + Int.toNat (IntKind.wrap IntKind.i64 (Int.ofNat (n + 1) - 1))) (EK.dflt [SK.tok]))) then
        (((.agg ⟨[(.int IntKind.i64 3), (.int IntKind.i64 0), (.int IntKind.i64 0), (.string s), (.string v)]⟩) : Value) = (.agg ⟨[(.int IntKind.i64 3), (.int IntKind.i64 0), (.int IntKind.i64 0), (.string s), (.string v)]⟩)) ∧
        (((.slice (some ⟨11, 0, (some 0)⟩) (n + 1) 18446744073709551616) : Value) = (.slice (some ⟨11, 0, (some 0)⟩) (n + 1) 18446744073709551616)) ∧
        (((.pointer (some ⟨9, 8, none⟩)) : Value) = (.pointer (some ⟨9, 8, none⟩))) ∧
        (((.pointer (some ⟨9, 0, none⟩)) : Value) = (.pointer (some ⟨9, 0, none⟩))) ∧
        (((.pointer (some ⟨9, 0, none⟩)) : Value) = (.pointer (some ⟨9, 0, none⟩))) ∧
        (((.pointer (some ⟨9, 0, none⟩)) : Value) = (.pointer (some ⟨9, 0, none⟩))) ∧
        (((.slice (slRef (SK.enc SK.tok (List.getD (kRow n 12 (List.length cur)) (0 + Int.toNat (IntKind.wrap IntKind.i64 (Int.ofNat (n + 1) - 1))) (EK.dflt [SK.tok])))) (slLen (SK.enc SK.tok (List.getD (kRow n 12 (List.length cur)) (0 + Int.toNat (IntKind.wrap IntKind.i64 (Int.ofNat (n + 1) - 1))) (EK.dflt [SK.tok])))) (slCap (SK.enc SK.tok (List.getD (kRow n 12 (List.length cur)) (0 + Int.toNat (IntKind.wrap IntKind.i64 (Int.ofNat (n + 1) - 1))) (EK.dflt [SK.tok]))))) : Value) = (.slice (some ⟨12, 0, (some 0)⟩) (List.length cur) 18446744073709551616)) ∧
        ((List.length cur = List.length cur ∧ capU = capU) ∧ List.length cur < 400000) ∧
        (((.slice (some ⟨11, 0, (some 0)⟩) (n + 1) 18446744073709551616) : Value) = (.slice (some ⟨11, 0, (some 0)⟩) (n + 1) 18446744073709551616)) ∧
        (((.pointer (some ⟨9, 8, none⟩)) : Value) = (.pointer (some ⟨9, 8, none⟩))) ∧
        (((.pointer (some ⟨9, 0, none⟩)) : Value) = (.pointer (some ⟨9, 0, none⟩))) ∧
        (((.pointer (some ⟨9, 0, none⟩)) : Value) = (.pointer (some ⟨9, 0, none⟩))) ∧
        (((.pointer (some ⟨9, 0, none⟩)) : Value) = (.pointer (some ⟨9, 0, none⟩))) ∧
        (bif true && Nat.ble (0 + (n + 1)) (List.length (kRow n 12 (List.length cur))) && bigOk 24 (n + 1 + 1) then
         (((.pointer (some ⟨9, 0, none⟩)) : Value) = (.pointer (some ⟨9, 0, none⟩))) ∧
         (Q (.bool true) [some (vc_ac3_0 cfg n), some (.abs (Abs.pack (Pk.model (doNx m 3 0 0 s v we wv))) false), none, some (.vec kSS cur false), some (.vec ([SK.str, SK.str]) (withL cur 3 s v) false), some (.cells [(.slice (some ⟨16, 0, (some 0)⟩) (List.length (withL cur 3 s v)) 18446744073709551616)] 1 false), some (.vec [SK.tok] ((List.take (n + 1) (List.drop 0 (kRow n 12 (List.length cur)))) ++ [(.slice (some ⟨16, 0, (some 0)⟩) (List.length (withL cur 3 s v)) 18446744073709551616)]) false)])
        else
         False)
       else
        False)
      else
       False)
     else
      (Q (.bool true) [some (vc_ac3_1 cfg n), some (.abs (Abs.pack (Pk.model (doNx m 3 0 0 s v we wv))) false), some (.vec [SK.tok] (kRow n 12 (List.length cur)) false), some (.vec kSS cur false), none, none, none]))))))) := by kernel_rfl
theorem vc_ac04 (cfg : List Int) (m : MSt) (n : Nat) (cur : List (EK.C kSS)) (kind key val : Int) (s v : ByteArray) (Q : Value → List (Option IObj) → Prop) (R : Cfg → Prop) : VCs XAc (pfAc (hint12 cur) 4 s v) f_drumlinlaw42_known_act [9, 10, 11, 12] acS Q R 400 (st f_drumlinlaw42_known_act 116 [p9, .agg ⟨[.int .u8 kind, .int .u8 key, .int .u8 val]⟩] (hKn cfg m n cur)) = (
 ((isB kind ∧ isB key ∧ isB val) ∧ aK kind = 4 ∧ aS kind key = s ∧ aV kind val = v) ∧
 (bif decide (0 ≤ IntKind.wrap IntKind.i64 (Int.ofNat (n + 1) - 1)) && Nat.blt (Int.toNat (IntKind.wrap IntKind.i64 (Int.ofNat (n + 1) - 1))) (n + 1) then
  (bif Nat.blt (0 + Int.toNat (IntKind.wrap IntKind.i64 (Int.ofNat (n + 1) - 1))) (List.length (kRow n 12 (List.length cur))) && isSl (SK.enc SK.tok (List.getD (kRow n 12 (List.length cur)) (0 + Int.toNat (IntKind.wrap IntKind.i64 (Int.ofNat (n + 1) - 1))) (EK.dflt [SK.tok]))) then
   (((.string s) : Value) = (.string s)) ∧
   (((.pointer (some ⟨14, 3, none⟩)) : Value) = (.pointer (some ⟨14, 3, none⟩))) ∧
   (((.slice (slRef (SK.enc SK.tok (List.getD (kRow n 12 (List.length cur)) (0 + Int.toNat (IntKind.wrap IntKind.i64 (Int.ofNat (n + 1) - 1))) (EK.dflt [SK.tok])))) (slLen (SK.enc SK.tok (List.getD (kRow n 12 (List.length cur)) (0 + Int.toNat (IntKind.wrap IntKind.i64 (Int.ofNat (n + 1) - 1))) (EK.dflt [SK.tok])))) (slCap (SK.enc SK.tok (List.getD (kRow n 12 (List.length cur)) (0 + Int.toNat (IntKind.wrap IntKind.i64 (Int.ofNat (n + 1) - 1))) (EK.dflt [SK.tok]))))) : Value) = (.slice (some ⟨12, 0, (some 0)⟩) (List.length cur) 18446744073709551616)) ∧
   ((List.length cur = List.length cur ∧ capU = capU) ∧ List.length cur < 1000000) ∧
   (bif Option.isSome (valK cur s) then
    (((.bool (Option.isSome (valK cur s))) : Value) = (.bool true)) ∧
    (R (acT cfg m n (mapR [14, 15] n cur) cur 4 0 0 s v 0 ({ data := #[] }) false 0))
   else
    (((.bool (Option.isSome (valK cur s))) : Value) = (.bool false)) ∧
    (R (acT cfg m n (mapR [14, 15] n cur) cur 4 0 0 s v 0 ({ data := #[] }) false 0)))
  else
   False)
 else
  False)) := by kernel_rfl
noncomputable abbrev vc_ac4_0 (cfg : List Int) (n : Nat) : IObj := (.cells [(.pointer (some ⟨10, 0, none⟩)), (.int IntKind.i64 (List.getD cfg 0 0)), (.int IntKind.i64 (List.getD cfg 1 0)), (.int IntKind.i64 (List.getD cfg 2 0)), (.int IntKind.i64 (List.getD cfg 3 0)), (.int IntKind.i64 (List.getD cfg 4 0)), (.int IntKind.i64 (List.getD cfg 5 0)), (.int IntKind.i64 (List.getD cfg 6 0)), (.slice (some ⟨11, 0, (some 0)⟩) (n + 1) capU)] 0 false)
theorem vc_ac4 (cfg : List Int) (m : MSt) (n : Nat) (cur : List (EK.C kSS)) (s v : ByteArray) (we : Int) (wv : ByteArray) (e : Int) (Q : Value → List (Option IObj) → Prop) (R : Cfg → Prop) : VCs XAc (pfAc (hint12 cur) 4 s v) f_drumlinlaw42_known_act [9, 10, 11, 12, 16, 17, 18] acS Q R 600 (acT cfg m n (kRow n 12 cur.length) cur 4 0 0 s v we wv false e) = (
 (bif decide (e ≤ 17) then
  (bif !(e == we && (ByteArray.toList { data := #[] } == ByteArray.toList wv && true)) then
   (bif e != 11 then
    (List.length (MSt.base m) < 1000000 ∧ List.length (MSt.now m) < 1000000 ∧ List.length (MSt.ups m) < 1000000) ∧
    (((.agg ⟨[(.int IntKind.i64 e), (.string ({ data := #[] }))]⟩) : Value) = (.agg ⟨[(.int IntKind.i64 e), (.string ({ data := #[] }))]⟩)) ∧
    (((.agg ⟨[(.int IntKind.i64 4), (.int IntKind.i64 0), (.int IntKind.i64 0), (.string s), (.string v)]⟩) : Value) = (.agg ⟨[(.int IntKind.i64 4), (.int IntKind.i64 0), (.int IntKind.i64 0), (.string s), (.string v)]⟩)) ∧
    (DoOk m 4 0 0 s v e { data := #[] }) ∧
    (bif doE m 4 0 0 s v e { data := #[] } != 7 then
     (Q (.bool false) [some (vc_ac4_0 cfg n), some (.abs (Abs.pack (Pk.model m)) false), some (.vec [SK.tok] (kRow n 12 (List.length cur)) false), some (.vec kSS cur false), some (.abs (Abs.pack (Pk.model (doNx m 4 0 0 s v e { data := #[] }))) false), none, none])
    else
     (R (acT cfg m n (mapR [13, 14] n cur) cur 4 0 0 s v we wv false (IntKind.wrap IntKind.i64 (e + 1)))))
   else
    (R (acT cfg m n (mapR [13, 14] n cur) cur 4 0 0 s v we wv false (IntKind.wrap IntKind.i64 (e + 1)))))
  else
   (R (acT cfg m n (mapR [13, 14] n cur) cur 4 0 0 s v we wv false (IntKind.wrap IntKind.i64 (e + 1)))))
 else
  (List.length (MSt.base m) < 1000000 ∧ List.length (MSt.now m) < 1000000 ∧ List.length (MSt.ups m) < 1000000) ∧
  (((.bool false) : Value) = (.bool false)) ∧
  (((.agg ⟨[(.int IntKind.i64 11), (.string ({ data := #[] }))]⟩) : Value) = (.agg ⟨[(.int IntKind.i64 11), (.string ({ data := #[] }))]⟩)) ∧
  (((.agg ⟨[(.int IntKind.i64 4), (.int IntKind.i64 0), (.int IntKind.i64 0), (.string s), (.string v)]⟩) : Value) = (.agg ⟨[(.int IntKind.i64 4), (.int IntKind.i64 0), (.int IntKind.i64 0), (.string s), (.string v)]⟩)) ∧
  (DoOk m 4 0 0 s v 11 { data := #[] }) ∧
  (((.bool false) : Value) = (.bool false)) ∧
  (DoOk m 4 0 0 s v we wv) ∧
  (bif doE m 4 0 0 s v we wv != 0 then
   (Q (.bool false) [some (vc_ac4_0 cfg n), some (.abs (Abs.pack (Pk.model (doNx m 4 0 0 s v we wv))) false), some (.vec [SK.tok] (kRow n 12 (List.length cur)) false), some (.vec kSS cur false), none, none, none])
  else
   (bif decide (0 ≤ IntKind.wrap IntKind.i64 (Int.ofNat (n + 1) - 1)) && Nat.blt (Int.toNat (IntKind.wrap IntKind.i64 (Int.ofNat (n + 1) - 1))) (n + 1) then
    (bif Nat.blt (0 + Int.toNat (IntKind.wrap IntKind.i64 (Int.ofNat (n + 1) - 1))) (List.length (kRow n 12 (List.length cur))) && isSl (SK.enc SK.tok (List.getD (kRow n 12 (List.length cur)) (0 + Int.toNat (IntKind.wrap IntKind.i64 (Int.ofNat (n + 1) - 1))) (EK.dflt [SK.tok]))) then
     (Q (.bool true) [some (.cells [(.pointer (some ⟨10, 0, none⟩)), (.int IntKind.i64 (List.getD cfg 0 0)), (.int IntKind.i64 (List.getD cfg 1 0)), (.int IntKind.i64 (List.getD cfg 2 0)), (.int IntKind.i64 (List.getD cfg 3 0)), (.int IntKind.i64 (List.getD cfg 4 0)), (.int IntKind.i64 (List.getD cfg 5 0)), (.int IntKind.i64 (List.getD cfg 6 0)), (.slice (some ⟨16, 0, none⟩) 1 1)] 0 false), some (.abs (Abs.pack (Pk.model (doNx m 4 0 0 s v we wv))) false), some (.vec [SK.tok] (kRow n 12 (List.length cur)) false), some (.vec kSS cur false), some (.cells [(.slice (slRef (SK.enc SK.tok (List.getD (kRow n 12 (List.length cur)) (0 + Int.toNat (IntKind.wrap IntKind.i64 (Int.ofNat (n + 1) - 1))) (EK.dflt [SK.tok])))) (slLen (SK.enc SK.tok (List.getD (kRow n 12 (List.length cur)) (0 + Int.toNat (IntKind.wrap IntKind.i64 (Int.ofNat (n + 1) - 1))) (EK.dflt [SK.tok])))) (slCap (SK.enc SK.tok (List.getD (kRow n 12 (List.length cur)) (0 + Int.toNat (IntKind.wrap IntKind.i64 (Int.ofNat (n + 1) - 1))) (EK.dflt [SK.tok])))))] 1 false), none, none])
    else
     False)
   else
    False)))) := by kernel_rfl
end Go.Ideal

set_option maxRecDepth 1000000
namespace Go.Ideal
open Go.Proofs
def cfgS (s : Int) : List Int := [4 + s, 100, 2, 200, 8, 16, 1]
structure KInv (cfg : List Int) (m : MSt) (n : Nat) (cur : List (EK.C kSS)) (i : Nat) : Prop where
  s : ∃ s : Int, 0 ≤ s ∧ s ≤ 7 ∧ cfg = cfgS s ∧ m.cfg = cfgS s ∧ m.limit = 42 * s
  now : m.now = cur
  sorted : sortedK cur
  cost : m.cost = costOf cur
  ups : m.ups.length = n
  st : m.state = 0
  pl : m.planned = false
  len : cur.length ≤ i
  nlen : n ≤ i
  blen : m.base.length ≤ i
  small : ∀ x ∈ cur, x.1.size ≤ 16 ∧ x.2.size ≤ 16
  le : i ≤ 1000
theorem pairCost_pos (x : EK.C kSS) : 16 ≤ pairCost x := by unfold pairCost; omega
theorem pairCost_le {k v : ByteArray} (h1 : k.size ≤ 16) (h2 : v.size ≤ 16) : pairCost ((k, v) : EK.C kSS) ≤ 48 := by
  show 16 + (k.size : Int) + (v.size : Int) ≤ 48; omega
theorem recC_eq {k v : ByteArray} (h1 : k.size ≤ 16) (h2 : v.size ≤ 16) : recC k v = pairCost ((k, v) : EK.C kSS) := by
  unfold recC
  rw [wrap_id (x := 16 + (k.size : Int)) (by omega) (by omega), wrap_id (by omega) (by omega)]; rfl
theorem costOf_bd : ∀ (l : List (EK.C kSS)), (∀ x ∈ l, x.1.size ≤ 16 ∧ x.2.size ≤ 16) → 0 ≤ costOf l ∧ costOf l ≤ 48 * l.length
  | [], _ => by simp [costOf]
  | x :: l, h => by
    have h1 := costOf_bd l (fun y hy => h y (by simp [hy]))
    have h2 := h x (by simp)
    have h3 := pairCost_pos x
    have h4 := pairCost_le (k := x.1) (v := x.2) h2.1 h2.2
    rw [costOf_cons]
    simp only [List.length_cons]
    have h5 : pairCost x ≤ 48 := h4
    omega
theorem smallL_of {l : List (EK.C kSS)} (h : ∀ x ∈ l, x.1.size ≤ 16 ∧ x.2.size ≤ 16) (hl : l.length ≤ 2000) : smallL l := ⟨by omega, fun x hx => by have := h x hx; omega⟩
theorem atK_mem {l : List (EK.C kSS)} (hs : sortedK l) {k o : ByteArray} (h : atK l k = some o) : (k, o) ∈ l := by
  cases parts k l hs with
  | has a b v ha hb hr =>
    rw [atK_hs hr] at h
    cases h; simp
  | none a b ha hb hr => rw [atK_non hb hr] at h; cases h
section
variable {cfg : List Int} {m : MSt} {n i : Nat} {cur : List (EK.C kSS)}
theorem after_put (h : KInv cfg m n cur i) {s v : ByteArray} (hs : s.size ≤ 16) (hv : v.size ≤ 16) : afterV m false s v = costOf (withL cur 1 s v) := by
  obtain ⟨_, _, _, _, e⟩ := set_law h.sorted s v
  have hb := costOf_bd cur h.small
  have hl := h.len
  have hle := h.le
  have hp := pairCost_le hs hv
  have hp2 := pairCost_pos ((s, v) : EK.C kSS)
  unfold afterV
  rw [h.now, h.cost, e, recC_eq hs hv]
  cases ha : atK cur s with
  | none =>
    simp only [Option.isSome_none, cond_false]
    exact wrap64 (by omega) (by omega)
  | some o =>
    have hm := h.small _ (atK_mem h.sorted ha)
    simp only at hm
    have hp3 := pairCost_le hm.1 hm.2
    have hp4 := pairCost_pos ((s, o) : EK.C kSS)
    simp only [Option.isSome_some, cond_true, cond_false, Option.getD_some]
    rw [recC_eq hm.1 hm.2, wrap64 (x := costOf cur - pairCost ((s, o) : EK.C kSS)) (by omega) (by omega), wrap64 (by omega) (by omega)]
theorem after_del (h : KInv cfg m n cur i) {s v : ByteArray} : afterV m true s v = costOf (withL cur 3 s v) := by
  obtain ⟨_, _, _, _, e⟩ := del_law h.sorted s v
  have hb := costOf_bd cur h.small
  have hl := h.len
  have hle := h.le
  unfold afterV
  rw [h.now, h.cost, e]
  cases ha : atK cur s with
  | none => rfl
  | some o =>
    have hm := h.small _ (atK_mem h.sorted ha)
    simp only at hm
    have hp3 := pairCost_le hm.1 hm.2
    have hp4 := pairCost_pos ((s, o) : EK.C kSS)
    simp only [Option.isSome_some, cond_true, Option.getD_some]
    rw [recC_eq hm.1 hm.2, wrap64 (by omega) (by omega)]
def overC (cfg : List Int) (cur : List (EK.C kSS)) (s v : ByteArray) : Bool := decide (costOf (withL cur 1 s v) > IntKind.wrap IntKind.i64 (Int.tdiv (IntKind.wrap IntKind.i64 (IntKind.wrap IntKind.i64 (IntKind.wrap IntKind.i64 (List.getD cfg 0 0 - List.getD cfg 2 0) - 2) * 84)) 2))
theorem lim_eq {s : Int} (h0 : 0 ≤ s) (h7 : s ≤ 7) : IntKind.wrap IntKind.i64 (Int.tdiv (IntKind.wrap IntKind.i64 (IntKind.wrap IntKind.i64 (IntKind.wrap IntKind.i64 (List.getD (cfgS s) 0 0 - List.getD (cfgS s) 2 0) - 2) * 84)) 2) = 42 * s := by
  have e1 : List.getD (cfgS s) 0 0 = 4 + s := rfl
  have e2 : List.getD (cfgS s) 2 0 = 2 := rfl
  rw [e1, e2, wrap64 (x := 4 + s - 2) (by omega) (by omega), wrap64 (x := 4 + s - 2 - 2) (by omega) (by omega), wrap64 (x := (4 + s - 2 - 2) * 84) (by omega) (by omega), Int.tdiv_eq_ediv_of_nonneg (by omega), wrap64 (by omega) (by omega)]
  omega
theorem ans_law (h : KInv cfg m n cur i) {k : Int} {s v : ByteArray} (hs : s.size ≤ 8) (hv : v.size ≤ 16) : ansE m k s v =
    bif k == 1 then (bif overC cfg cur s v then (4, e0, false) else (0, e0, true)) else bif k == 2 then (bif (valK cur s).isSome then (0, (valK cur s).getD e0, false) else (5, e0, false)) else bif k == 3 then (0, e0, (valK cur s).isSome) else (0, e0, false) := by
  obtain ⟨s6, h0, h7, hc, hmc, hml⟩ := h.s
  have b1 : bigK m s = false := by
    unfold bigK
    rw [hmc]
    exact decide_eq_false (by show ¬ ((s.size : Int) > 8); omega)
  have b2 : bigV m v = false := by
    unfold bigV
    rw [hmc]
    exact decide_eq_false (by show ¬ ((v.size : Int) > 16); omega)
  have b3 : overL m s v = overC cfg cur s v := by
    unfold overL overC
    rw [after_put h (by omega) hv, hml, hc, lim_eq h0 h7]
  have b4 : hasK m s = (valK cur s).isSome := by
    unfold hasK; rw [h.now, valK_atK h.sorted]
  unfold ansE
  rw [b1, b2, b3, b4, h.now, valK_atK h.sorted]
  simp only [Bool.or_self, cond_false]
  cases k == 1
  · cases k == 2
    · cases k == 3
      · rfl
      · cases (atK cur s).isSome <;> rfl
    · cases hk : atK cur s <;> rfl
  · rfl
theorem do_none {k : Int} {s v : ByteArray} (hc : OpGd k 0 0 s v) (h7 : (k == 7) = false) {e we : Int} {wv : ByteArray} {u : Bool} (ha : ansE m k s v = (we, wv, u)) (he : e ≠ 11) (hne : (!(e == we && (ByteArray.toList { data := #[] } == ByteArray.toList wv && true))) = true) :
    doE m k 0 0 s v e { data := #[] } = 7 := by
  have hE : isE { data := #[] } = true := by simp [isE]
  unfold doE doB doR
  rw [chkE_gd hc, h7, ha, hE]
  have e11 : (e == 11) = false := by simpa using he
  simp only [e11, hne, Bool.true_and, cond_true]
  cases u <;> cases e == 13 <;> rfl
theorem do_busy {k : Int} {s v : ByteArray} (hc : OpGd k 0 0 s v) (h7 : (k == 7) = false) {we : Int} {wv : ByteArray} {u : Bool} (ha : ansE m k s v = (we, wv, u)) : doE m k 0 0 s v 11 { data := #[] } = bif u then 0 else 7 := by
  have hE : isE { data := #[] } = true := by simp [isE]
  unfold doE doB doR
  rw [chkE_gd hc, h7, ha, hE]
  cases u <;> rfl
theorem do_want {k : Int} {s v : ByteArray} (hc : OpGd k 0 0 s v) (h7 : (k == 7) = false) {we : Int} {wv : ByteArray} {u : Bool} (ha : ansE m k s v = (we, wv, u)) (h11 : (we == 11) = false) (h13 : (we == 13) = false) :
    doE m k 0 0 s v we wv = 0 ∧ doNx m k 0 0 s v we wv = finM k (bif u then accM m (k == 3) s v else m) := by
  unfold doE doB doNx doR
  rw [chkE_gd hc, h7, ha]
  simp only [h11, h13, Bool.and_false, cond_false, beq_self_eq_true, Bool.and_self, Bool.not_true]
  cases u <;> exact ⟨rfl, rfl⟩
theorem inv_mono (h : KInv cfg m n cur i) {j : Nat} (hij : i ≤ j) (hj : j ≤ 1000) : KInv cfg m n cur j :=
  ⟨h.s, h.now, h.sorted, h.cost, h.ups, h.st, h.pl, Nat.le_trans h.len hij, Nat.le_trans h.nlen hij, Nat.le_trans h.blen hij, h.small, hj⟩
theorem inv_put (h : KInv cfg m n cur i) {s v : ByteArray} (hs : s.size ≤ 8) (hv : v.size ≤ 16) (hi : i < 1000) : KInv cfg (accM m false s v) (n + 1) (withL cur 1 s v) (i + 1) := by
  obtain ⟨e1, e2, e3, e4, e5⟩ := set_law h.sorted s v
  have hl := h.len
  have hnl := h.nlen
  have hbl := h.blen
  refine ⟨h.s, ?_, e2, after_put h (by omega) hv, ?_, h.st, h.pl, by omega, by omega, by show m.base.length ≤ i + 1; omega, fun x hx => ?_, by omega⟩
  · show setK m.now s v = _
    rw [h.now, e1]
  · show (m.ups ++ [(false, s, v)]).length = _
    rw [List.length_append, h.ups]; rfl
  · rcases e4 x hx with hx | rfl
    · exact h.small x hx
    · exact ⟨show s.size ≤ 16 by omega, hv⟩
theorem inv_del (h : KInv cfg m n cur i) {s v : ByteArray} (hi : i < 1000) : KInv cfg (accM m true s v) (n + 1) (withL cur 3 s v) (i + 1) := by
  obtain ⟨e1, e2, e3, e4, e5⟩ := del_law h.sorted s v
  have hl := h.len
  have hnl := h.nlen
  have hbl := h.blen
  refine ⟨h.s, ?_, e2, after_del h, ?_, h.st, h.pl, by omega, by omega, by show m.base.length ≤ i + 1; omega, fun x hx => h.small x (e4 x hx), by omega⟩
  · show delK m.now s = _
    rw [h.now, e1]
  · show (m.ups ++ [(true, s, v)]).length = _
    rw [List.length_append, h.ups]; rfl
theorem inv_sync (h : KInv cfg m n cur i) (hi : i < 1000) : KInv cfg (setM m) 0 cur (i + 1) := by
  have hl := h.len
  refine ⟨h.s, h.now, h.sorted, h.cost, rfl, h.st, h.pl, by omega, by omega, ?_, h.small, by omega⟩
  show m.now.length ≤ i + 1
  rw [h.now]; omega
noncomputable def actA (cfg : List Int) (cur : List (EK.C kSS)) (k : Int) (s v : ByteArray) : Int × ByteArray × Bool :=
  bif k == 1 then (bif overC cfg cur s v then (4, e0, false) else (0, e0, true)) else bif k == 2 then (bif (valK cur s).isSome then (0, (valK cur s).getD e0, false) else (5, e0, false)) else bif k == 3 then (0, e0, (valK cur s).isSome) else (0, e0, false)
noncomputable def actM (cfg : List Int) (m : MSt) (cur : List (EK.C kSS)) (k : Int) (s v : ByteArray) : MSt := finM k (bif (actA cfg cur k s v).2.2 then accM m (k == 3) s v else m)
noncomputable def actN (cfg : List Int) (n : Nat) (cur : List (EK.C kSS)) (k : Int) (s v : ByteArray) : Nat := bif k == 4 then 0 else bif (actA cfg cur k s v).2.2 then n + 1 else n
noncomputable def actL (cfg : List Int) (cur : List (EK.C kSS)) (k : Int) (s v : ByteArray) : List (EK.C kSS) := bif (actA cfg cur k s v).2.2 then withL cur k s v else cur
theorem inv_act (h : KInv cfg m n cur i) {k : Int} (hk : k = 1 ∨ k = 2 ∨ k = 3 ∨ k = 4) {s v : ByteArray} (hs : s.size ≤ 8) (hv : v.size ≤ 16) (hi : i < 1000) : KInv cfg (actM cfg m cur k s v) (actN cfg n cur k s v) (actL cfg cur k s v) (i + 1) := by
  have hm := inv_mono h (Nat.le_succ i) hi
  rcases hk with rfl | rfl | rfl | rfl
  · cases ho : overC cfg cur s v
    · have e : actA cfg cur 1 s v = (0, e0, true) := by unfold actA; rw [ho]; rfl
      unfold actM actN actL
      rw [e]; exact inv_put h hs hv hi
    · have e : actA cfg cur 1 s v = (4, e0, false) := by unfold actA; rw [ho]; rfl
      unfold actM actN actL
      rw [e]; exact hm
  · have e : (actA cfg cur 2 s v).2.2 = false := by unfold actA; cases (valK cur s).isSome <;> rfl
    unfold actM actN actL
    rw [e]; exact hm
  · have e : (actA cfg cur 3 s v).2.2 = (valK cur s).isSome := rfl
    unfold actM actN actL
    rw [e]
    cases (valK cur s).isSome
    · exact hm
    · exact inv_del h hi
  · have e : (actA cfg cur 4 s v).2.2 = false := rfl
    unfold actM actN actL
    rw [e]; exact inv_sync h hi
end
end Go.Ideal

set_option maxRecDepth 1000000
namespace Go.Ideal
open Go.Proofs
theorem row_ix {n : Nat} (h : n < 1000000) : IntKind.wrap IntKind.i64 (Int.ofNat (n + 1) - 1) = (n : Int) := by
  have e : Int.ofNat (n + 1) - 1 = (n : Int) := by show ((n + 1 : Nat) : Int) - 1 = n; omega
  rw [e, wrap64 (by omega) (by omega)]
theorem kRow_len (n z len : Nat) : (kRow n z len).length = n + 1 := by
  unfold kRow; rw [List.length_append, List.length_replicate]; rfl
theorem kRow_get (n z len : Nat) : List.getD (kRow n z len) (0 + Int.toNat (n : Int)) (EK.dflt [SK.tok]) = .slice (some ⟨z, 0, some 0⟩) len capU := by
  rw [Int.toNat_natCast, Nat.zero_add]
  unfold kRow
  rw [List.getD_eq_getElem?_getD, List.getElem?_append_right (by rw [List.length_replicate]; exact Nat.le_refl _), List.length_replicate, Nat.sub_self]; rfl
theorem row_t1 {n : Nat} (h : n < 1000000) : (decide (0 ≤ IntKind.wrap IntKind.i64 (Int.ofNat (n + 1) - 1)) && Nat.blt (Int.toNat (IntKind.wrap IntKind.i64 (Int.ofNat (n + 1) - 1))) (n + 1)) = true := by
  rw [row_ix h, decide_eq_true (by omega), Int.toNat_natCast]
  exact Nat.ble_eq_true_of_le (by omega)
theorem row_t2 {n len : Nat} (h : n < 1000000) : (Nat.blt (0 + Int.toNat (IntKind.wrap IntKind.i64 (Int.ofNat (n + 1) - 1))) (List.length (kRow n 12 len)) && isSl (SK.enc SK.tok (List.getD (kRow n 12 len) (0 + Int.toNat (IntKind.wrap IntKind.i64 (Int.ofNat (n + 1) - 1))) (EK.dflt [SK.tok])))) = true := by
  rw [row_ix h, kRow_get, kRow_len, Int.toNat_natCast, Nat.zero_add]
  have : Nat.blt n (n + 1) = true := Nat.ble_eq_true_of_le (by omega)
  rw [this]; rfl
theorem row_v {n len : Nat} (h : n < 1000000) : Value.slice (slRef (SK.enc SK.tok (List.getD (kRow n 12 len) (0 + Int.toNat (IntKind.wrap IntKind.i64 (Int.ofNat (n + 1) - 1))) (EK.dflt [SK.tok])))) (slLen (SK.enc SK.tok (List.getD (kRow n 12 len) (0 + Int.toNat (IntKind.wrap IntKind.i64 (Int.ofNat (n + 1) - 1))) (EK.dflt [SK.tok])))) (slCap (SK.enc SK.tok (List.getD (kRow n 12 len) (0 + Int.toNat (IntKind.wrap IntKind.i64 (Int.ofNat (n + 1) - 1))) (EK.dflt [SK.tok])))) = .slice (some ⟨12, 0, some 0⟩) len 18446744073709551616 := by
  rw [row_ix h, kRow_get, capL]; rfl
theorem mapR_eq (ids : List Nat) (n : Nat) (cur : List (EK.C kSS)) : mapR ids n cur = kRow n 12 cur.length := by
  have e1 : rwV (rnOf 13 ids) junk = junk := rfl
  have e2 : rwV (rnOf 13 ids) (.slice (some ⟨12, 0, some 0⟩) cur.length capU) = .slice (some ⟨12, 0, some 0⟩) cur.length capU := rfl
  show List.map (rwV (rnOf 13 ids)) (List.replicate n junk ++ [Value.slice (some ⟨12, 0, some 0⟩) cur.length capU]) = _
  rw [List.map_append, List.map_replicate, e1, List.map_cons, e2]; rfl
theorem doOk {cfg : List Int} {m : MSt} {n i : Nat} {cur : List (EK.C kSS)} (h : KInv cfg m n cur i) {k : Int} {s v : ByteArray} (hc : OpGd k 0 0 s v) (h7 : (k == 7) = false) (e : Int) (sv : ByteArray) : DoOk m k 0 0 s v e sv := by
  obtain ⟨s6, _, _, _, hmc, _⟩ := h.s
  have h1 := h.len
  have h2 := h.nlen
  have h3 := h.le
  exact ⟨by rw [hmc]; rfl, h.st, h.pl, hc, by rw [h.now]; exact h.sorted, by rw [h.now]; omega, by rw [h.ups]; omega, fun h => by rw [h7] at h; cases h⟩
theorem cpOk {cfg : List Int} {m : MSt} {n i : Nat} {cur : List (EK.C kSS)} (h : KInv cfg m n cur i) : List.length (MSt.base m) < 1000000 ∧ List.length (MSt.now m) < 1000000 ∧ List.length (MSt.ups m) < 1000000 := by
  have h1 := h.len
  have h2 := h.nlen
  have h3 := h.le
  have h4 := h.blen
  exact ⟨by omega, by rw [h.now]; omega, by rw [h.ups]; omega⟩
theorem footF_mono {laid : List (Nat × List Value)} {N : Nat} {muts : List Bool} {G G' : List Value → List IObj → GT} (h : ∀ args objs x, (G args objs).run = some x → (G' args objs).run = some x) (args : List Value) (H : IHeap) (r : Value × IHeap) (hr : footF laid N muts G args H = some r) : footF laid N muts G' args H = some r := by
  unfold footF at hr ⊢
  generalize renL (renV (inOf laid N (reach2 H N 200 (args.flatMap (refsN 4)) []))) args = A at hr ⊢
  generalize objL (inOf laid N (reach2 H N 200 (args.flatMap (refsN 4)) [])) H (reach2 H N 200 (args.flatMap (refsN 4)) []) = B at hr ⊢
  cases A with
  | none => cases hr
  | some a => cases B with
    | none => cases hr
    | some o =>
      simp only at hr ⊢
      cases hm : mutsOk muts H 0 (reach2 H N 200 (args.flatMap (refsN 4)) [])
      · simp only [hm, cond_false] at hr; cases hr
      · simp only [hm, cond_true] at hr ⊢
        split at hr
        · rename_i x hx
          rw [h _ _ x hx]; exact hr
        · cases hr
theorem iok_doG : IOk Tryz.prog tab42 f_model_Model_Do (footF tab42 9 [true] doG) := by
  refine IOk.sub iok_do (footF_mono fun args objs x hx => ?_)
  unfold doG at hx
  split at hx
  · rename_i k a b key val e sv m ro
    simp only [GT.run] at hx
    split at hx
    · rename_i hok
      cases hx
      obtain ⟨h1, h2, h3, h4, h5, h6, h7, h8⟩ := hok
      have hq : doQ.ok m [opV k a b key val, resV e sv] := ⟨k, a, b, key, val, e, sv, rfl, h1, h2, h3, h4, h5, h6, h7, h8⟩
      show (GT.ask (doQ.ok m [opV k a b key val, resV e sv]) _).run = _
      simp only [GT.run]
      rw [if_pos hq]; rfl
    · cases hx
  · cases hx
theorem iok_costM : IOk Tryz.prog tab42 f_model_Model_Cost (footF tab42 9 [true] costQ.G) := by
  refine iok_mdl allM (by kernel_rfl) (n := 10) ?_
  rintro m rest rfl
  refine ⟨by simp, rfl, ?_⟩
  have hE : EndsN XM 10 f_model_Model_Cost (fun v H => v = .int .i64 m.cost ∧ ([9, 10, 11, 12] ++ refsN 4 v).map H.get = [some (.cells (mCells m 10 11 (.slice (some ⟨12, 0, some 0⟩) m.ups.length capU)) 0 false), some (tbP m.base), some (tbP m.now), some (.vec kUp m.ups false)]) (st f_model_Model_Cost 10 [p9] (putL ⟨.leaf, 9⟩ (mdU m))) := by
    refine EndsIn.toN (VCp_ok pfM_ok (ids := [9, 10, 11, 12]) (Q := fun v os => v = .int .i64 m.cost ∧ os = [some (.cells (mCells m 10 11 (.slice (some ⟨12, 0, some 0⟩) m.ups.length capU)) 0 false), some (tbP m.base), some (tbP m.now), some (.vec kUp m.ups false)]) 100 _ ?_)
    rw [vc_costM]
    exact ⟨rfl, by unfold capU; rfl⟩
  refine hE.mono ?_
  rintro v H ⟨rfl, h⟩
  have h : [H.get 9, H.get 10, H.get 11, H.get 12] = _ := h
  simp only [List.cons.injEq, and_true] at h
  exact ⟨rfl, 10, 11, 12, by decide, by decide, by decide, by decide, by decide, by decide, h.2.1, h.2.2.1, h.1, h.2.2.2⟩
theorem iok_unsM : IOk Tryz.prog tab42 f_model_Model_Unsynced (footF tab42 9 [true] unsQ.G) := by
  refine iok_mdl allM (by kernel_rfl) (n := 11) ?_
  rintro m rest rfl
  refine ⟨by simp, rfl, ?_⟩
  have hE : EndsN XM 10 f_model_Model_Unsynced (fun v H => v = .int .i64 m.ups.length ∧ ([9, 10, 11, 12] ++ refsN 4 v).map H.get = [some (.cells (mCells m 10 11 (.slice (some ⟨12, 0, some 0⟩) m.ups.length capU)) 0 false), some (tbP m.base), some (tbP m.now), some (.vec kUp m.ups false)]) (st f_model_Model_Unsynced 11 [p9] (putL ⟨.leaf, 9⟩ (mdU m))) := by
    refine EndsIn.toN (VCp_ok pfM_ok (ids := [9, 10, 11, 12]) (Q := fun v os => v = .int .i64 m.ups.length ∧ os = [some (.cells (mCells m 10 11 (.slice (some ⟨12, 0, some 0⟩) m.ups.length capU)) 0 false), some (tbP m.base), some (tbP m.now), some (.vec kUp m.ups false)]) 100 _ ?_)
    rw [vc_unsM]
    exact ⟨rfl, by unfold capU; rfl⟩
  refine hE.mono ?_
  rintro v H ⟨rfl, h⟩
  have h : [H.get 9, H.get 10, H.get 11, H.get 12] = _ := h
  simp only [List.cons.injEq, and_true] at h
  exact ⟨rfl, 10, 11, 12, by decide, by decide, by decide, by decide, by decide, by decide, h.2.1, h.2.2.1, h.1, h.2.2.2⟩
end Go.Ideal

set_option maxRecDepth 1000000
namespace Go.Ideal
open Go.Proofs
theorem hintPf_ok {X : Ctx} {f : FuncId} {x : Value} {p : PFun} (h : ∀ args H (K : Value → IHeap → Prop), p args H K → ∃ v H', intrAt X f args .normal H = some (v, H') ∧ K v H') (args : List Value) (H : IHeap) (K : Value → IHeap → Prop) (hp : hintPf x p args H K) : ∃ v H', intrAt X f args .normal H = some (v, H') ∧ K v H' := by
  unfold hintPf at hp
  split at hp
  · obtain ⟨rfl, hp⟩ := hp
    exact h _ H K hp
  · exact hp.elim
theorem pOpH_ok {X : Ctx} {f : FuncId} {k : Int} {s v : ByteArray} (hX : X.intr f = some qOp.F) (args : List Value) (H : IHeap) (K : Value → IHeap → Prop) (h : pOpH k s v args H K) : ∃ v H', intrAt X f args .normal H = some (v, H') ∧ K v H' := by
  unfold pOpH at h
  split at h
  · obtain ⟨⟨h1, rfl, rfl, rfl⟩, h2⟩ := h
    exact PlainF.p_ok (q := qOp) hX _ H K ⟨h1, h2⟩
  · exact h.elim
theorem pfAc_ok (x : Value) (k : Int) (s v : ByteArray) : PfOk XAc (pfAc x k s v) := pf_cons (pOpH_ok (by kernel_rfl)) (pf_cons (hintPf_ok fun _ _ _ h => footPf_ok (by kernel_rfl) h) (pf_cons (hintPf_ok fun _ _ _ h => footPf_ok (by kernel_rfl) h) (pf_cons (fun _ _ _ h => footPf_ok (by kernel_rfl) h)
  (pf_cons (fun _ _ _ h => footPf_ok (by kernel_rfl) h) (pf_cons (fun _ _ _ h => footPf_ok (by kernel_rfl) h) (noPf_ok _))))))
theorem allAc : AllOk Tryz.prog tab42 fsAc := AllOk.cons iok_op (AllOk.cons iok_value (AllOk.cons iok_with (AllOk.cons iok_cost (AllOk.cons iok_copyM (AllOk.cons iok_doG (AllOk.nil _ _))))))
theorem bif_tt {A B : Prop} (h : A) : (bif true then A else B) := h
theorem bif_ff {A B : Prop} (h : B) : (bif false then A else B) := h
theorem bif_fl {b : Bool} {A B : Prop} (h : b = false) (h1 : B) : (bif b then A else B) := by rw [h]; exact h1
noncomputable def knS (cfg : List Int) : List Value := (knC cfg 10 11 0).take 8 ++ [.slice (some ⟨16, 0, none⟩) 1 1]
inductive AcQ (cfg : List Int) (m' : MSt) (n : Nat) (cur : List (EK.C kSS)) (k : Int) (s v : ByteArray) : Bool → List (Option IObj) → Prop where
  | same (a b c : Option IObj) (hk : (k == 4) = false) : AcQ cfg m' n cur k s v false [some (.cells (knC cfg 10 11 (n + 1)) 0 false), some (.abs (.pack (.model m')) false), some (.vec [.tok] (kRow n 12 cur.length) false), some (.vec kSS cur false), a, b, c]
  | app (x : Option IObj) (hk : (k == 4) = false) : AcQ cfg m' n cur k s v true [some (.cells (knC cfg 10 18 (n + 1 + 1)) 0 false), some (.abs (.pack (.model m')) false), none, some (.vec kSS cur false), some (.vec kSS (withL cur k s v) false), x, some (.vec [.tok] (List.take (n + 1) (List.drop 0 (kRow n 12 cur.length)) ++ [Value.slice (some ⟨16, 0, some 0⟩) (withL cur k s v).length capU]) false)]
  | syn (a b : Option IObj) (hk : (k == 4) = true) : AcQ cfg m' n cur k s v false [some (.cells (knS cfg) 0 false), some (.abs (.pack (.model m')) false), some (.vec [.tok] (kRow n 12 cur.length) false), some (.vec kSS cur false), some (.cells [.slice (some ⟨12, 0, some 0⟩) cur.length capU] 1 false), a, b]
abbrev acIds : List Nat := [9, 10, 11, 12, 16, 17, 18]
abbrev AcV (cfg : List Int) (m' : MSt) (n : Nat) (cur : List (EK.C kSS)) (k : Int) (s v : ByteArray) (u : Bool) : Value → List (Option IObj) → Prop := fun vv os => vv = .bool true ∧ AcQ cfg m' n cur k s v u os
theorem int_ne {a b : Int} (h : a ≠ b) : (a == b) = false := by simpa using h
theorem ac_room {n len : Nat} (hn : n < 1000000) : (true && Nat.ble (0 + (n + 1)) (List.length (kRow n 12 len)) && bigOk 24 (n + 1 + 1)) = true := by
  rw [kRow_len, Nat.ble_eq_true_of_le (by omega)]
  unfold bigOk
  rw [Nat.ble_eq_true_of_le (by omega), Nat.ble_eq_true_of_le (by omega)]; rfl
section
variable {cfg : List Int} {m : MSt} {n i : Nat} {cur : List (EK.C kSS)} {s v : ByteArray} {we : Int} {wv : ByteArray}
theorem ac_loop1 (h : KInv cfg m n cur i) (hc : OpGd 1 0 0 s v) {u : Bool} (ha : ansE m 1 s v = (we, wv, u)) (h11 : (we == 11) = false) (h13 : (we == 13) = false) : ∀ (q : Nat) (e : Int), (18 - e).toNat = q → 0 ≤ e → e ≤ 18 →
    EndsN XAc 13 f_drumlinlaw42_known_act (fun vv H => AcV cfg (doNx m 1 0 0 s v we wv) n cur 1 s v u vv ((acIds ++ refsN 4 vv).map H.get)) (acT cfg m n (kRow n 12 cur.length) cur 1 0 0 s v we wv u e) := by
  have hn : n < 1000000 := by have := h.nlen; have := h.le; omega
  have hb := do_busy hc rfl ha
  obtain ⟨hw1, hw2⟩ := do_want hc rfl ha h11 h13
  have hw0 : (doE m 1 0 0 s v we wv != 0) = false := by rw [hw1]; rfl
  intro q
  induction q with
  | zero =>
    intro e hq h0 h18
    refine VCs_ok (pfAc_ok (hint12 cur) 1 s v) (ids := acIds) (S := acS) (by kernel_rfl) (Q := AcV cfg (doNx m 1 0 0 s v we wv) n cur 1 s v u) (R := fun _ => False) (fun vv H h => h) (fun c h => h.elim) 600 _ ?_
    rw [vc_ac1]
    refine bif_decide (fun h => absurd h (by omega)) (fun _ => ?_)
    cases u
    · have hb0 : (doE m 1 0 0 s v 11 { data := #[] } == 0) = false := by rw [hb]; rfl
      refine bif_ff ⟨cpOk h, rfl, rfl, rfl, doOk h hc rfl _ _, rfl, bif_fl hb0 ⟨doOk h hc rfl _ _, bif_fl hw0 (bif_ff ⟨rfl, ?_⟩)⟩⟩
      first | exact AcQ.same (k := 1) _ _ _ rfl | (rw [capL]; exact AcQ.same (k := 1) _ _ _ rfl)
    · have hb0 : (doE m 1 0 0 s v 11 { data := #[] } == 0) = true := by rw [hb]; rfl
      refine bif_tt ⟨cpOk h, rfl, rfl, rfl, doOk h hc rfl _ _, rfl, bif_true hb0 ⟨doOk h hc rfl _ _, bif_fl hw0 (bif_tt (bif_true (row_t1 hn) (bif_true (row_t2 hn) ⟨rfl, rfl, rfl, rfl, rfl, rfl, row_v hn, ⟨⟨rfl, rfl⟩, ?_⟩, rfl, rfl, rfl, rfl, rfl, bif_true (ac_room hn) ⟨rfl, rfl, ?_⟩⟩)))⟩⟩
      · have := h.len; have := h.le; omega
      · first | exact AcQ.app (k := 1) _ rfl | (rw [capL]; exact AcQ.app (k := 1) _ rfl)
  | succ q ih =>
    intro e hq h0 h18
    have hw : IntKind.wrap IntKind.i64 (e + 1) = e + 1 := wrap64 (by omega) (by omega)
    refine VCs_ok (pfAc_ok (hint12 cur) 1 s v) (ids := acIds) (S := acS) (by kernel_rfl) (Q := fun _ _ => False) (R := fun c => c = acT cfg m n (kRow n 12 cur.length) cur 1 0 0 s v we wv u (e + 1)) (fun vv H h => h.elim) (fun c h => by rw [h]; exact ih (e + 1) (by omega) (by omega) (by omega)) 600 _ ?_
    rw [vc_ac1, hw]
    refine bif_decide (fun _ => ?_) (fun h => absurd (show e ≤ (17 : Int) by omega) h)
    refine bif_both (fun hne => bif_both (fun h11 => ?_) (fun _ => ?_)) (fun _ => ?_)
    · refine ⟨cpOk h, rfl, rfl, doOk h hc rfl _ _, ?_⟩
      rw [do_none hc rfl ha (by simpa using h11) hne]
      exact bif_fl rfl (by rw [mapR_eq])
    · rw [mapR_eq]
    · rw [mapR_eq]
theorem ac_loop2 (h : KInv cfg m n cur i) (hc : OpGd 2 0 0 s v) (ha : ansE m 2 s v = (we, wv, false)) (h11 : (we == 11) = false) (h13 : (we == 13) = false) : ∀ (q : Nat) (e : Int), (18 - e).toNat = q → 0 ≤ e → e ≤ 18 →
    EndsN XAc 13 f_drumlinlaw42_known_act (fun vv H => AcV cfg (doNx m 2 0 0 s v we wv) n cur 2 s v false vv ((acIds ++ refsN 4 vv).map H.get)) (acT cfg m n (kRow n 12 cur.length) cur 2 0 0 s v we wv false e) := by
  have hn : n < 1000000 := by have := h.nlen; have := h.le; omega
  have hb := do_busy hc rfl ha
  obtain ⟨hw1, hw2⟩ := do_want hc rfl ha h11 h13
  have hw0 : (doE m 2 0 0 s v we wv != 0) = false := by rw [hw1]; rfl
  intro q
  induction q with
  | zero =>
    intro e hq h0 h18
    refine VCs_ok (pfAc_ok (hint12 cur) 2 s v) (ids := acIds) (S := acS) (by kernel_rfl) (Q := AcV cfg (doNx m 2 0 0 s v we wv) n cur 2 s v false) (R := fun _ => False) (fun vv H h => h) (fun c h => h.elim) 600 _ ?_
    rw [vc_ac2]
    refine bif_decide (fun h => absurd h (by omega)) (fun _ => ?_)
    have hb0 : (doE m 2 0 0 s v 11 { data := #[] } == 0) = false := by rw [hb]; rfl
    refine ⟨cpOk h, rfl, rfl, rfl, doOk h hc rfl _ _, rfl, bif_fl hb0 ⟨doOk h hc rfl _ _, bif_fl hw0 ⟨rfl, ?_⟩⟩⟩
    first | exact AcQ.same (k := 2) _ _ _ rfl | (rw [capL]; exact AcQ.same (k := 2) _ _ _ rfl)
  | succ q ih =>
    intro e hq h0 h18
    have hw : IntKind.wrap IntKind.i64 (e + 1) = e + 1 := wrap64 (by omega) (by omega)
    refine VCs_ok (pfAc_ok (hint12 cur) 2 s v) (ids := acIds) (S := acS) (by kernel_rfl) (Q := fun _ _ => False) (R := fun c => c = acT cfg m n (kRow n 12 cur.length) cur 2 0 0 s v we wv false (e + 1)) (fun vv H h => h.elim) (fun c h => by rw [h]; exact ih (e + 1) (by omega) (by omega) (by omega)) 600 _ ?_
    rw [vc_ac2, hw]
    refine bif_decide (fun _ => ?_) (fun h => absurd (show e ≤ (17 : Int) by omega) h)
    refine bif_both (fun hne => bif_both (fun h11 => ?_) (fun _ => ?_)) (fun _ => ?_)
    · refine ⟨cpOk h, rfl, rfl, doOk h hc rfl _ _, ?_⟩
      rw [do_none hc rfl ha (by simpa using h11) hne]
      exact bif_fl rfl (by rw [mapR_eq])
    · rw [mapR_eq]
    · rw [mapR_eq]
theorem ac_loop3 (h : KInv cfg m n cur i) (hc : OpGd 3 0 0 s v) {u : Bool} (ha : ansE m 3 s v = (we, wv, u)) (h11 : (we == 11) = false) (h13 : (we == 13) = false) : ∀ (q : Nat) (e : Int), (18 - e).toNat = q → 0 ≤ e → e ≤ 18 →
    EndsN XAc 13 f_drumlinlaw42_known_act (fun vv H => AcV cfg (doNx m 3 0 0 s v we wv) n cur 3 s v u vv ((acIds ++ refsN 4 vv).map H.get)) (acT cfg m n (kRow n 12 cur.length) cur 3 0 0 s v we wv u e) := by
  have hn : n < 1000000 := by have := h.nlen; have := h.le; omega
  have hb := do_busy hc rfl ha
  obtain ⟨hw1, hw2⟩ := do_want hc rfl ha h11 h13
  have hw0 : (doE m 3 0 0 s v we wv != 0) = false := by rw [hw1]; rfl
  intro q
  induction q with
  | zero =>
    intro e hq h0 h18
    refine VCs_ok (pfAc_ok (hint12 cur) 3 s v) (ids := acIds) (S := acS) (by kernel_rfl) (Q := AcV cfg (doNx m 3 0 0 s v we wv) n cur 3 s v u) (R := fun _ => False) (fun vv H h => h) (fun c h => h.elim) 600 _ ?_
    rw [vc_ac3]
    refine bif_decide (fun h => absurd h (by omega)) (fun _ => ?_)
    cases u
    · have hb0 : (doE m 3 0 0 s v 11 { data := #[] } == 0) = false := by rw [hb]; rfl
      refine bif_ff ⟨cpOk h, rfl, rfl, rfl, doOk h hc rfl _ _, rfl, bif_fl hb0 ⟨doOk h hc rfl _ _, bif_fl hw0 (bif_ff ⟨rfl, ?_⟩)⟩⟩
      first | exact AcQ.same (k := 3) _ _ _ rfl | (rw [capL]; exact AcQ.same (k := 3) _ _ _ rfl)
    · have hb0 : (doE m 3 0 0 s v 11 { data := #[] } == 0) = true := by rw [hb]; rfl
      refine bif_tt ⟨cpOk h, rfl, rfl, rfl, doOk h hc rfl _ _, rfl, bif_true hb0 ⟨doOk h hc rfl _ _, bif_fl hw0 (bif_tt (bif_true (row_t1 hn) (bif_true (row_t2 hn) ⟨rfl, rfl, rfl, rfl, rfl, rfl, row_v hn, ⟨⟨rfl, rfl⟩, ?_⟩, rfl, rfl, rfl, rfl, rfl, bif_true (ac_room hn) ⟨rfl, rfl, ?_⟩⟩)))⟩⟩
      · have := h.len; have := h.le; omega
      · first | exact AcQ.app (k := 3) _ rfl | (rw [capL]; exact AcQ.app (k := 3) _ rfl)
  | succ q ih =>
    intro e hq h0 h18
    have hw : IntKind.wrap IntKind.i64 (e + 1) = e + 1 := wrap64 (by omega) (by omega)
    refine VCs_ok (pfAc_ok (hint12 cur) 3 s v) (ids := acIds) (S := acS) (by kernel_rfl) (Q := fun _ _ => False) (R := fun c => c = acT cfg m n (kRow n 12 cur.length) cur 3 0 0 s v we wv u (e + 1)) (fun vv H h => h.elim) (fun c h => by rw [h]; exact ih (e + 1) (by omega) (by omega) (by omega)) 600 _ ?_
    rw [vc_ac3, hw]
    refine bif_decide (fun _ => ?_) (fun h => absurd (show e ≤ (17 : Int) by omega) h)
    refine bif_both (fun hne => bif_both (fun h11 => ?_) (fun _ => ?_)) (fun _ => ?_)
    · refine ⟨cpOk h, rfl, rfl, doOk h hc rfl _ _, ?_⟩
      rw [do_none hc rfl ha (by simpa using h11) hne]
      exact bif_fl rfl (by rw [mapR_eq])
    · rw [mapR_eq]
    · rw [mapR_eq]
theorem ac_loop4 (h : KInv cfg m n cur i) (hc : OpGd 4 0 0 s v) (ha : ansE m 4 s v = (we, wv, false)) (h11 : (we == 11) = false) (h13 : (we == 13) = false) : ∀ (q : Nat) (e : Int), (18 - e).toNat = q → 0 ≤ e → e ≤ 18 →
    EndsN XAc 13 f_drumlinlaw42_known_act (fun vv H => AcV cfg (doNx m 4 0 0 s v we wv) n cur 4 s v false vv ((acIds ++ refsN 4 vv).map H.get)) (acT cfg m n (kRow n 12 cur.length) cur 4 0 0 s v we wv false e) := by
  have hn : n < 1000000 := by have := h.nlen; have := h.le; omega
  obtain ⟨hw1, hw2⟩ := do_want hc rfl ha h11 h13
  have hw0 : (doE m 4 0 0 s v we wv != 0) = false := by rw [hw1]; rfl
  intro q
  induction q with
  | zero =>
    intro e hq h0 h18
    refine VCs_ok (pfAc_ok (hint12 cur) 4 s v) (ids := acIds) (S := acS) (by kernel_rfl) (Q := AcV cfg (doNx m 4 0 0 s v we wv) n cur 4 s v false) (R := fun _ => False) (fun vv H h => h) (fun c h => h.elim) 600 _ ?_
    rw [vc_ac4]
    refine bif_decide (fun h => absurd h (by omega)) (fun _ => ?_)
    refine ⟨cpOk h, rfl, rfl, rfl, doOk h hc rfl _ _, rfl, doOk h hc rfl _ _, bif_fl hw0 (bif_true (row_t1 hn) (bif_true (row_t2 hn) ⟨rfl, ?_⟩))⟩
    rw [row_v hn]
    first | exact AcQ.syn (k := 4) _ _ rfl | (rw [capL]; exact AcQ.syn (k := 4) _ _ rfl)
  | succ q ih =>
    intro e hq h0 h18
    have hw : IntKind.wrap IntKind.i64 (e + 1) = e + 1 := wrap64 (by omega) (by omega)
    refine VCs_ok (pfAc_ok (hint12 cur) 4 s v) (ids := acIds) (S := acS) (by kernel_rfl) (Q := fun _ _ => False) (R := fun c => c = acT cfg m n (kRow n 12 cur.length) cur 4 0 0 s v we wv false (e + 1)) (fun vv H h => h.elim) (fun c h => by rw [h]; exact ih (e + 1) (by omega) (by omega) (by omega)) 600 _ ?_
    rw [vc_ac4, hw]
    refine bif_decide (fun _ => ?_) (fun h => absurd (show e ≤ (17 : Int) by omega) h)
    refine bif_both (fun hne => bif_both (fun h11 => ?_) (fun _ => ?_)) (fun _ => ?_)
    · refine ⟨cpOk h, rfl, rfl, doOk h hc rfl _ _, ?_⟩
      rw [do_none hc rfl ha (by simpa using h11) hne]
      exact bif_fl rfl (by rw [mapR_eq])
    · rw [mapR_eq]
    · rw [mapR_eq]
end
end Go.Ideal

set_option maxRecDepth 1000000
namespace Go.Ideal
open Go.Proofs
theorem nmA_nm {j : Nat} (h : j < 5) : isNm (nmA j) ∧ (nmA j).size ≤ 8 := by
  match j, h with
  | 0, _ => exact ⟨.inl rfl, by decide⟩
  | 1, _ => exact ⟨.inr (.inl rfl), by decide⟩
  | 2, _ => exact ⟨.inr (.inr (.inl rfl)), by decide⟩
  | 3, _ => exact ⟨.inr (.inr (.inr (.inl rfl))), by decide⟩
  | 4, _ => exact ⟨.inr (.inr (.inr (.inr (.inl rfl)))), by decide⟩
theorem actV_size {val : Int} : (actV val).size ≤ 16 := by
  unfold actV
  rw [ByteArray.size_extract]
  have : ByteArray.size hex16 = 16 := rfl
  omega
theorem op_facts (kind key val : Int) : OpGd (aK kind) 0 0 (aS kind key) (aV kind val) ∧ (aK kind = 1 ∨ aK kind = 2 ∨ aK kind = 3 ∨ aK kind = 4) ∧ (aS kind key).size ≤ 8 ∧ (aV kind val).size ≤ 16 := by
  obtain ⟨h1, h2⟩ := nmA_nm (j := key.toNat % 5) (Nat.mod_lt _ (by decide))
  have h3 := actV_size (val := val)
  unfold aS aV
  have hk : aK kind = 1 ∨ aK kind = 2 ∨ aK kind = 3 ∨ aK kind = 4 := by
    unfold aK
    cases decide (Int.tmod kind 8 < 4)
    · cases decide (Int.tmod kind 8 < 6)
      · cases Int.tmod kind 8 == 6
        · exact .inr (.inl rfl)
        · exact .inr (.inr (.inr rfl))
      · exact .inr (.inr (.inl rfl))
    · exact .inl rfl
  rcases hk with e | e | e | e <;> rw [e]
  · exact ⟨.put _ _ h1 (by show (actV val).size ≤ 512; omega), .inl rfl, h2, h3⟩
  · exact ⟨.get _ h1, .inr (.inl rfl), h2, Nat.zero_le _⟩
  · exact ⟨.del _ h1, .inr (.inr (.inl rfl)), h2, Nat.zero_le _⟩
  · exact ⟨.sync, .inr (.inr (.inr rfl)), Nat.zero_le _, Nat.zero_le _⟩
section
variable {cfg : List Int} {m : MSt} {n i : Nat} {cur : List (EK.C kSS)}
theorem act_want (h : KInv cfg m n cur i) {k : Int} {s v : ByteArray} (hs : s.size ≤ 8) (hv : v.size ≤ 16) : ansE m k s v = ((actA cfg cur k s v).1, (actA cfg cur k s v).2.1, (actA cfg cur k s v).2.2) := ans_law h hs hv
theorem act_11 (k : Int) (s v : ByteArray) : ((actA cfg cur k s v).1 == 11) = false ∧ ((actA cfg cur k s v).1 == 13) = false := by
  unfold actA
  cases k == 1
  · cases k == 2
    · cases k == 3 <;> exact ⟨rfl, rfl⟩
    · cases (valK cur s).isSome <;> exact ⟨rfl, rfl⟩
  · cases overC cfg cur s v <;> exact ⟨rfl, rfl⟩
abbrev ActE (cfg : List Int) (m : MSt) (n : Nat) (cur : List (EK.C kSS)) (k : Int) (s v : ByteArray) : Value → IHeap → Prop := fun vv H => AcV cfg (actM cfg m cur k s v) n cur k s v (actA cfg cur k s v).2.2 vv ((acIds ++ refsN 4 vv).map H.get)
theorem act_tail (h : KInv cfg m n cur i) {k : Int} (hk : k = 1 ∨ k = 2 ∨ k = 3 ∨ k = 4) {s v : ByteArray} (hc : OpGd k 0 0 s v) (hs : s.size ≤ 8) (hv : v.size ≤ 16) :
    EndsN XAc 13 f_drumlinlaw42_known_act (ActE cfg m n cur k s v) (acT cfg m n (kRow n 12 cur.length) cur k 0 0 s v (actA cfg cur k s v).1 (actA cfg cur k s v).2.1 (actA cfg cur k s v).2.2 0) := by
  have ha := act_want h (k := k) hs hv
  obtain ⟨h11, h13⟩ := act_11 (cfg := cfg) (cur := cur) k s v
  have hw : k ≠ 7 → doNx m k 0 0 s v (actA cfg cur k s v).1 (actA cfg cur k s v).2.1 = actM cfg m cur k s v := fun h7 => (do_want hc (int_ne h7) ha h11 h13).2
  unfold ActE
  rcases hk with rfl | rfl | rfl | rfl
  · rw [← hw (by decide)]; exact ac_loop1 h hc ha h11 h13 18 0 rfl (by decide) (by decide)
  · have e : (actA cfg cur 2 s v).2.2 = false := by unfold actA; cases (valK cur s).isSome <;> rfl
    rw [e] at ha
    rw [← hw (by decide), e]; exact ac_loop2 h hc ha h11 h13 18 0 rfl (by decide) (by decide)
  · rw [← hw (by decide)]; exact ac_loop3 h hc ha h11 h13 18 0 rfl (by decide) (by decide)
  · rw [← hw (by decide)]; exact ac_loop4 h hc ha h11 h13 18 0 rfl (by decide) (by decide)
theorem act_run (h : KInv cfg m n cur i) {kind key val : Int} (hb : isB kind ∧ isB key ∧ isB val) :
    EndsN XAc 13 f_drumlinlaw42_known_act (ActE cfg m n cur (aK kind) (aS kind key) (aV kind val)) (st f_drumlinlaw42_known_act 116 [p9, .agg ⟨[.int .u8 kind, .int .u8 key, .int .u8 val]⟩] (hKn cfg m n cur)) := by
  obtain ⟨hc, hk, hs, hv⟩ := op_facts kind key val
  have hn : n < 1000000 := by have := h.nlen; have := h.le; omega
  have hl : List.length cur < 400000 := by have := h.len; have := h.le; omega
  have ht := act_tail h hk hc hs hv
  generalize hS : aS kind key = s at *
  generalize hV : aV kind val = v at *
  refine VCs_ok (pfAc_ok (hint12 cur) (aK kind) s v) (ids := [9, 10, 11, 12]) (S := acS) (by kernel_rfl) (Q := fun _ _ => False) (R := fun c => c = acT cfg m n (kRow n 12 cur.length) cur (aK kind) 0 0 s v (actA cfg cur (aK kind) s v).1 (actA cfg cur (aK kind) s v).2.1 (actA cfg cur (aK kind) s v).2.2 0) (fun vv H h => h.elim) (fun c h => by rw [h]; exact ht) 400 _ ?_
  generalize hK : aK kind = k at *
  rcases hk with rfl | rfl | rfl | rfl
  · have hsm : smallL (withL cur 1 s v) := by
      obtain ⟨_, _, e3, e4, _⟩ := set_law h.sorted s v
      refine smallL_of (fun x hx => ?_) (by have := h.len; have := h.le; omega)
      rcases e4 x hx with hx | rfl
      · exact h.small x hx
      · exact ⟨show s.size ≤ 16 by omega, hv⟩
    have hfin : (bif decide (costOf (withL cur 1 s v) ≤ IntKind.wrap IntKind.i64 (Int.tdiv (IntKind.wrap IntKind.i64 (IntKind.wrap IntKind.i64 (IntKind.wrap IntKind.i64 (List.getD cfg 0 0 - List.getD cfg 2 0) - 2) * 84)) 2)) then
        acT cfg m n (mapR [14, 15] n cur) cur 1 0 0 s v 0 ({ data := #[] }) true 0 = acT cfg m n (kRow n 12 cur.length) cur 1 0 0 s v (actA cfg cur 1 s v).1 (actA cfg cur 1 s v).2.1 (actA cfg cur 1 s v).2.2 0
        else acT cfg m n (mapR [14, 15] n cur) cur 1 0 0 s v 4 ({ data := #[] }) false 0 = acT cfg m n (kRow n 12 cur.length) cur 1 0 0 s v (actA cfg cur 1 s v).1 (actA cfg cur 1 s v).2.1 (actA cfg cur 1 s v).2.2 0) := by
      refine bif_decide (fun hle => ?_) (fun hle => ?_)
      · have e : actA cfg cur 1 s v = (0, e0, true) := by
          have : overC cfg cur s v = false := decide_eq_false (by omega)
          unfold actA; rw [this]; rfl
        rw [mapR_eq, e]; rfl
      · have e : actA cfg cur 1 s v = (4, e0, false) := by
          have : overC cfg cur s v = true := decide_eq_true (by omega)
          unfold actA; rw [this]; rfl
        rw [mapR_eq, e]; rfl
    rw [vc_ac01]
    refine ⟨⟨hb, hK, hS, hV⟩, bif_true (row_t1 hn) (bif_true (row_t2 hn) ⟨rfl, rfl, row_v hn, ⟨⟨rfl, rfl⟩, by omega⟩, bif_both (fun e => ⟨by rw [e], ?_⟩) (fun e => ⟨by rw [e], ?_⟩)⟩)⟩
    · exact bif_true (row_t1 hn) (bif_true (row_t2 hn) ⟨rfl, rfl, row_v hn, ⟨⟨rfl, rfl⟩, hl⟩, rfl, ⟨⟨rfl, rfl⟩, hsm⟩, rfl, hfin⟩)
    · exact bif_true (row_t1 hn) (bif_true (row_t2 hn) ⟨rfl, rfl, row_v hn, ⟨⟨rfl, rfl⟩, hl⟩, rfl, ⟨⟨rfl, rfl⟩, hsm⟩, rfl, hfin⟩)
  · rw [vc_ac02]
    refine ⟨⟨hb, hK, hS, hV⟩, bif_true (row_t1 hn) (bif_true (row_t2 hn) ⟨rfl, rfl, row_v hn, ⟨⟨rfl, rfl⟩, by omega⟩, bif_both (fun e => ⟨by rw [e], ?_⟩) (fun e => ⟨by rw [e], ?_⟩)⟩)⟩
    · have e1 : actA cfg cur 2 s v = (0, (valK cur s).getD e0, false) := by unfold actA; rw [e]; rfl
      rw [mapR_eq, e1]
    · have e1 : actA cfg cur 2 s v = (5, e0, false) := by unfold actA; rw [e]; rfl
      have e2 : (valK cur s).getD e0 = e0 := by
        cases hq : valK cur s with
        | none => rfl
        | some o => rw [hq] at e; cases e
      rw [mapR_eq, e1, e2]
  · rw [vc_ac03]
    refine ⟨⟨hb, hK, hS, hV⟩, bif_true (row_t1 hn) (bif_true (row_t2 hn) ⟨rfl, rfl, row_v hn, ⟨⟨rfl, rfl⟩, by omega⟩, bif_both (fun e => ⟨by rw [e], ?_⟩) (fun e => ⟨by rw [e], ?_⟩)⟩)⟩
    · have e1 : actA cfg cur 3 s v = (0, e0, true) := by unfold actA; rw [e]; rfl
      rw [mapR_eq, e1]; rfl
    · have e1 : actA cfg cur 3 s v = (0, e0, false) := by unfold actA; rw [e]; rfl
      rw [mapR_eq, e1]; rfl
  · rw [vc_ac04]
    refine ⟨⟨hb, hK, hS, hV⟩, bif_true (row_t1 hn) (bif_true (row_t2 hn) ⟨rfl, rfl, row_v hn, ⟨⟨rfl, rfl⟩, by omega⟩, bif_both (fun e => ⟨by rw [e], ?_⟩) (fun e => ⟨by rw [e], ?_⟩)⟩)⟩
    · rw [mapR_eq]; rfl
    · rw [mapR_eq]; rfl
end
end Go.Ideal

set_option maxRecDepth 1000000
namespace Go.Ideal
open Go.Proofs
theorem renV_junk (ρ : Ren) : renV ρ junk = some junk := rfl
theorem renL_kRow {ρ : Ren} {a b len : Nat} (h : ρ a = some b) : ∀ n, renL (renV ρ) (kRow n a len) = some (kRow n b len)
  | 0 => by
    show renL (renV ρ) [Value.slice (some ⟨a, 0, some 0⟩) len capU] = _
    have e : renV ρ (.slice (some ⟨a, 0, some 0⟩) len capU) = some (.slice (some ⟨b, 0, some 0⟩) len capU) := by
      show renV ρ (Value.slice (some ⟨a, 0, some 0⟩) len capU) = _
      simp only [renV, renN, renA, h]
      rfl
    simp only [renL, e]
    rfl
  | n + 1 => by
    have ih := renL_kRow h n (len := len)
    have e1 : ∀ z, kRow (n + 1) z len = junk :: kRow n z len := fun z => rfl
    rw [e1, e1]
    simp only [renL, renV_junk, ih]
theorem renO_kRow {ρ : Ren} {a b len n : Nat} {ro : Bool} (h : ρ a = some b) : renO ρ (.vec [.tok] (kRow n a len) ro) = some (.vec [.tok] (kRow n b len) ro) := renO_tok (renL_kRow h n)
theorem refs_kRow (n z len : Nat) (ro : Bool) : refsO2 (.vec [.tok] (kRow n z len) ro) = [z] := by
  show List.flatMap (refsN 4) (List.replicate n junk ++ [Value.slice (some ⟨z, 0, some 0⟩) len capU]) = [z]
  rw [List.flatMap_append]
  have : List.flatMap (refsN 4) (List.replicate n junk) = [] := by
    induction n with
    | zero => rfl
    | succ n ih => rw [List.replicate_succ, List.flatMap_cons, ih]; rfl
  rw [this]; rfl
noncomputable def kn0 (cfg : List Int) (m : MSt) (n : Nat) (cur : List (EK.C kSS)) : IHeap := putL ⟨.leaf, 9⟩ [.cells (knC cfg 10 11 (n + 1)) 0 false, .abs (.pack (.model m)) false, .abs (.pack (.maps n cur)) false]
theorem kn0_top (cfg : List Int) (m : MSt) (n : Nat) (cur : List (EK.C kSS)) : ∀ x, 12 ≤ x → (kn0 cfg m n cur).get x = none := by
  intro x hx
  unfold kn0
  rw [putL_get]
  show (if x < 9 then _ else _) = _
  rw [if_neg (by omega), List.getElem?_eq_none (by simp; omega)]
  rfl
theorem kn_open (cfg : List Int) (m : MSt) (n : Nat) (cur : List (EK.C kSS)) : ((kn0 cfg m n cur).put 11 (.vec [.tok] (kRow n 12 cur.length) false)).alloc (.vec kSS cur false) = hKn cfg m n cur := by kernel_rfl
theorem openKn {X : Ctx} {f : FuncId} {Q : Value → IHeap → Prop} {nt : Nat} {args : List Value} {cfg : List Int} {m : MSt} {n : Nat} {cur : List (EK.C kSS)} (hN : EndsD X 12 (fun b => 9 ≤ b ∧ b < 12) f Q (st f nt args (hKn cfg m n cur))) : EndsD X 12 (fun b => 9 ≤ b ∧ b < 12) f Q (st f nt args (kn0 cfg m n cur)) := by
  refine EndsD.opened (b := 11) (s := .maps n cur) (ro := false) ⟨by omega, by omega⟩ (by show (kn0 cfg m n cur).get 11 = _; kernel_rfl) (fun ops p k h => by cases h) fun objs hr => ?_
  cases hr with
  | maps =>
    refine ⟨_, opened2 (H := kn0 cfg m n cur) (b := 11) (ro := false) (o := .vec [.tok] (kRow n 1 cur.length) false) (o1 := .vec [.tok] (kRow n 12 cur.length) false) (p := .vec kSS cur false) (p1 := .vec kSS cur false) (show 11 < 12 by decide) (kn0_top cfg m n cur) (renO_kRow (ρ := packRen 11 12 2) rfl) rfl, ?_⟩
    rw [kn_open]; exact hN
structure KnAt (cfg : List Int) (m : MSt) (n : Nat) (cur : List (EK.C kSS)) (y z : Nat) (H : IHeap) : Prop where
  nd : [9, 10, y, z].Nodup
  g9 : H.get 9 = some (.cells (knC cfg 10 y (n + 1)) 0 false)
  g10 : H.get 10 = some (.abs (.pack (.model m)) false)
  gy : H.get y = some (.vec [.tok] (kRow n z cur.length) false)
  gz : H.get z = some (.vec kSS cur false)
theorem beqF {a b : Nat} (h : a ≠ b) : Nat.beq a b = false := by
  cases hq : Nat.beq a b
  · rfl
  · exact absurd (Nat.eq_of_beq_eq_true hq) h
theorem shutKn {D : Nat → Prop} {v : Value} {H : IHeap} {cfg : List Int} {m : MSt} {n : Nat} {cur : List (EK.C kSS)} {y z : Nat} (hD : D 9) (h : KnAt cfg m n cur y z H) :
    ∃ H2, ShutsTo D v H H2 ∧ H2.get 9 = some (.cells (knC cfg 10 y (n + 1)) 0 false) ∧ H2.get 10 = some (.abs (.pack (.model m)) false) ∧ H2.get y = some (.abs (.pack (.maps n cur)) false) := by
  have hnd := h.nd
  simp only [List.nodup_cons, List.mem_cons, List.not_mem_nil, or_false, not_or, List.nodup_nil, and_true, not_false_eq_true] at hnd
  obtain ⟨⟨n1, n2, n3⟩, ⟨n4, n5⟩, n6⟩ := hnd
  have s1 := shutH_ok (s := .maps n cur) (bs := [y, z]) (H := H) (by simp [n6])
  have hR : ∀ x, x = y ∨ x = z → x ∈ reach2 H 0 200 [9] [] := by
    intro x hx
    rw [reach_one h.g9 rfl]
    show x ∈ reach2 H 0 199 [10, y] [9]
    rw [reach_one h.g10 rfl]
    show x ∈ reach2 H 0 198 [y] [9, 10]
    rw [reach_one h.gy (by simp [beqF (Ne.symm n2), beqF (Ne.symm n4)]), refs_kRow]
    show x ∈ reach2 H 0 197 [z] [9, 10, y]
    rw [reach_one h.gz (by simp [beqF (Ne.symm n3), beqF (Ne.symm n5), beqF (Ne.symm n6)])]
    exact reach2_seen H 0 _ _ _ x (by rcases hx with rfl | rfl <;> simp)
  refine ⟨shutH (.maps n cur) [y, z] H, shut2R (s := .maps n cur) (b := y) (n := z) (rs := [9]) (o1 := .vec [.tok] (kRow n z cur.length) false) (p1 := .vec kSS cur false) (.maps n cur) (fun b hb => by rw [List.mem_singleton] at hb; subst hb; exact .inr hD) (hR y (.inl rfl)) (hR z (.inr rfl)) (Ne.symm n6) h.gy rfl rfl (renO_kRow rfl) h.gz rfl rfl rfl (.refl _) rfl (fun T hv => ?_), ?_, ?_, s1.root y rfl⟩
  · have := hv.1
    have e := congrArg List.length this
    rw [kRow_len] at e; cases e
  · rw [s1.old 9 (by simp [n2, n3])]; exact h.g9
  · rw [s1.old 10 (by simp [n4, n5])]; exact h.g10
def ActOk (cfg : List Int) (m : MSt) (n : Nat) (cur : List (EK.C kSS)) (kind key val : Int) : Prop := (∃ i, i < 1000 ∧ KInv cfg m n cur i) ∧ isB kind ∧ isB key ∧ isB val
noncomputable def keepB (cfg : List Int) (cur : List (EK.C kSS)) (kind key val : Int) : Bool := !(aK kind == 4) && !(actA cfg cur (aK kind) (aS kind key) (aV kind val)).2.2
noncomputable def nxM (cfg : List Int) (m : MSt) (cur : List (EK.C kSS)) (kind key val : Int) : MSt := actM cfg m cur (aK kind) (aS kind key) (aV kind val)
noncomputable def nxN (cfg : List Int) (n : Nat) (cur : List (EK.C kSS)) (kind key val : Int) : Nat := actN cfg n cur (aK kind) (aS kind key) (aV kind val)
noncomputable def nxL (cfg : List Int) (cur : List (EK.C kSS)) (kind key val : Int) : List (EK.C kSS) := actL cfg cur (aK kind) (aS kind key) (aV kind val)
noncomputable def actG (args : List Value) (objs : List IObj) : GT :=
  match args, objs with
  | [.pointer (some ⟨9, 0, none⟩), .agg ⟨[.int .u8 kind, .int .u8 key, .int .u8 val]⟩], [.cells [.pointer (some ⟨10, 0, none⟩), .int .i64 c0, .int .i64 c1, .int .i64 c2, .int .i64 c3, .int .i64 c4, .int .i64 c5, .int .i64 c6, .slice (some ⟨11, 0, some 0⟩) nn cap] 0 _, .abs (.pack (.model m)) _, .abs (.pack (.maps n cur)) _] =>
    .ask ((nn = n + 1 ∧ cap = capU) ∧ ActOk [c0, c1, c2, c3, c4, c5, c6] m n cur kind key val) (.test (keepB [c0, c1, c2, c3, c4, c5, c6] cur kind key val)
      (.ret ⟨.bool true, [some (.cells (knC [c0, c1, c2, c3, c4, c5, c6] 10 11 (n + 1)) 0 false), some (.abs (.pack (.model (nxM [c0, c1, c2, c3, c4, c5, c6] m cur kind key val))) false), some (.abs (.pack (.maps n cur)) false)], []⟩)
      (.ret ⟨.bool true, [some (.cells (knC [c0, c1, c2, c3, c4, c5, c6] 10 12 (nxN [c0, c1, c2, c3, c4, c5, c6] n cur kind key val + 1)) 0 false), some (.abs (.pack (.model (nxM [c0, c1, c2, c3, c4, c5, c6] m cur kind key val))) false), none],
        [.abs (.pack (.maps (nxN [c0, c1, c2, c3, c4, c5, c6] n cur kind key val) (nxL [c0, c1, c2, c3, c4, c5, c6] cur kind key val))) false]⟩))
  | _, _ => .fail
def ActP (cfg : List Int) (m : MSt) (n : Nat) (cur : List (EK.C kSS)) (keep : Bool) (v : Value) (H : IHeap) : Prop := v = .bool true ∧ ∃ y z, KnAt cfg m n cur y z H ∧ (keep = true → y = 11) ∧ (keep = false → 12 ≤ y)
theorem act_told {D : Nat → Prop} {cfg : List Int} {m' : MSt} {n : Nat} {cur : List (EK.C kSS)} {k : Int} {s v : ByteArray} {vv : Value} {H : IHeap} (hq : AcV cfg m' n cur k s v (actA cfg cur k s v).2.2 vv ((acIds ++ refsN 4 vv).map H.get)) :
    ∃ v2 H2, (∀ (base : Env) (W0 : World) (μ : Inj) (W : World) (v' : Value), (∀ b, D b → ∃ T, μ b = some T) → VRel μ vv v' → HRel base W0 μ H W → ∃ μ2, μ.le μ2 ∧ HRel base W0 μ2 H2 W ∧ VRel μ2 v2 v') ∧
      ActP cfg m' (actN cfg n cur k s v) (actL cfg cur k s v) (!(k == 4) && !(actA cfg cur k s v).2.2) v2 H2 := by
  obtain ⟨rfl, hq⟩ := hq
  generalize hos : (acIds ++ refsN 4 (.bool true)).map H.get = os at hq
  have hos : [H.get 9, H.get 10, H.get 11, H.get 12, H.get 16, H.get 17, H.get 18] = os := hos
  generalize hu : (actA cfg cur k s v).2.2 = u at hq
  unfold actN actL
  rw [hu]
  cases hq with
  | same a b c hk =>
    simp only [List.cons.injEq, and_true] at hos
    obtain ⟨g9, g10, g11, g12, _⟩ := hos
    refine ⟨_, H, fun base W0 μ W v' _ hv hH => ⟨μ, Inj.le_refl _, hH, hv⟩, rfl, 11, 12, ⟨by decide, ?_, g10, ?_, ?_⟩, fun _ => rfl, fun e => ?_⟩
    · rw [hk]; exact g9
    · rw [hk]; exact g11
    · exact g12
    · rw [hk] at e; cases e
  | app x hk =>
    simp only [List.cons.injEq, and_true] at hos
    obtain ⟨g9, g10, g11, g12, g16, g17, g18⟩ := hos
    refine ⟨_, H.put 18 (.vec [.tok] (List.replicate (List.take (n + 1) (List.drop 0 (kRow n 12 cur.length))).length junk ++ [Value.slice (some ⟨16, 0, some 0⟩) (withL cur k s v).length capU]) false), fun base W0 μ W v' _ hv hH => ⟨μ, Inj.le_refl _, hH.weak g18, hv⟩, rfl, 18, 16, ⟨by decide, ?_, ?_, ?_, ?_⟩, fun e => ?_, fun _ => by decide⟩
    · rw [IHeap.get_put, if_neg (by decide), hk]; exact g9
    · rw [IHeap.get_put, if_neg (by decide)]; exact g10
    · rw [IHeap.get_put, if_pos rfl, hk, List.drop_zero, List.take_of_length_le (by rw [kRow_len]; exact Nat.le_refl _), kRow_len]; rfl
    · rw [IHeap.get_put, if_neg (by decide)]; exact g16
    · rw [hk] at e; cases e
  | syn a b hk =>
    simp only [List.cons.injEq, and_true] at hos
    obtain ⟨g9, g10, g11, g12, g16, _⟩ := hos
    refine ⟨_, (H.put 16 (.vec [.tok] [Value.slice (some ⟨12, 0, some 0⟩) cur.length capU] false)).put 9 (.cells ((knC cfg 10 11 0).take 8 ++ .slice (some ⟨16, 0, some 0⟩) 1 capU :: []) 0 false), fun base W0 μ W v' _ hv hH => ⟨μ, Inj.le_refl _, ?_, hv⟩, rfl, 16, 12, ⟨by decide, ?_, ?_, ?_, ?_⟩, fun e => ?_, fun _ => by decide⟩
    · have h1 := hH.revec (k := [.tok]) (l := [Value.slice (some ⟨12, 0, some 0⟩) cur.length capU]) (ro := false) (by rw [encL_tok]; exact g16)
      refine h1.rowCellX (n := 16) (len := 1) (cap := 1) (l := [Value.slice (some ⟨12, 0, some 0⟩) cur.length capU]) (ro2 := false) ?_ (by rw [IHeap.get_put, if_pos rfl]) (by decide) (by decide) (Nat.le_refl 1) (by decide)
      rw [IHeap.get_put, if_neg (by decide)]; exact g9
    · rw [IHeap.get_put, if_pos rfl, hk]; rfl
    · rw [IHeap.get_put, if_neg (by decide), IHeap.get_put, if_neg (by decide)]; exact g10
    · rw [IHeap.get_put, if_neg (by decide), IHeap.get_put, if_pos rfl, hk]; rfl
    · rw [IHeap.get_put, if_neg (by decide), IHeap.get_put, if_neg (by decide)]; exact g12
    · rw [hk] at e; cases e
theorem iok_act : IOk Tryz.prog tab42 f_drumlinlaw42_known_act (footF tab42 9 [true, true, true] actG) := by
  refine iok_footD allAc (by kernel_rfl) (n := 116) (by kernel_rfl) (by kernel_rfl) fun argsc objs x hx hro => ?_
  unfold actG at hx
  split at hx
  · rename_i kind key val c0 c1 c2 c3 c4 c5 c6 nn cap r0 m r1 n cur r2
    simp only [GT.run] at hx
    split at hx
    · rename_i hok
      obtain ⟨⟨rfl, rfl⟩, ⟨i, hi, hinv⟩, hb⟩ := hok
      have e0 : r0 = false := hro 0 _ rfl rfl
      have e1 : r1 = false := hro 1 _ rfl rfl
      have e2 : r2 = false := hro 2 _ rfl rfl
      subst e0 e1 e2
      generalize hcfg : [c0, c1, c2, c3, c4, c5, c6] = cfg at *
      have hroot : IObj.cells [.pointer (some ⟨10, 0, none⟩), .int .i64 c0, .int .i64 c1, .int .i64 c2, .int .i64 c3, .int .i64 c4, .int .i64 c5, .int .i64 c6, .slice (some ⟨11, 0, some 0⟩) (n + 1) capU] 0 false = .cells (knC cfg 10 11 (n + 1)) 0 false := by rw [← hcfg]; rfl
      refine ⟨by simp, ?_⟩
      rw [hroot]
      show EndsD XAc 12 (fun b => 9 ≤ b ∧ b < 12) f_drumlinlaw42_known_act _ (st f_drumlinlaw42_known_act 116 [p9, .agg ⟨[.int .u8 kind, .int .u8 key, .int .u8 val]⟩] (kn0 cfg m n cur))
      refine EndsD.shut (Q := ActP cfg (nxM cfg m cur kind key val) (nxN cfg n cur kind key val) (nxL cfg cur kind key val) (keepB cfg cur kind key val)) (openKn (EndsD.tell (EndsN.lower (by decide) (act_run hinv hb)).toD fun v H hq => act_told hq)) ?_
      rintro v H ⟨rfl, y, z, hK, hy1, hy2⟩
      obtain ⟨H2, k1, k2, k3, k4⟩ := shutKn (D := fun b => 9 ≤ b ∧ b < 9 + 3) (v := .bool true) ⟨by decide, by decide⟩ hK
      refine ⟨H2, k1, ?_⟩
      cases hkeep : keepB cfg cur kind key val
      · rw [hkeep] at hx
        cases hx
        have hy := hy2 hkeep
        refine ⟨[y], by simp, fun c hc => by simp at hc; show 12 ≤ c; omega, rfl, rfl, fun j c p hj hp => ?_, fun j o hj hm ho => ?_⟩
        · cases j with
          | zero => cases hj; cases hp; exact ⟨_, rfl, k4⟩
          | succ j => cases j <;> cases hj
        · cases j with
          | zero => cases ho; exact ⟨_, rfl, k2⟩
          | succ j => cases j with
            | zero => cases ho; exact ⟨_, rfl, k3⟩
            | succ j => cases j with
              | zero => cases ho
              | succ j => exact absurd hj (by show ¬ (j + 3 < 3); omega)
      · rw [hkeep] at hx
        cases hx
        have hy := hy1 hkeep
        subst hy
        have hkk : nxN cfg n cur kind key val = n ∧ nxL cfg cur kind key val = cur := by
          unfold keepB at hkeep
          simp only [Bool.and_eq_true, Bool.not_eq_true'] at hkeep
          unfold nxN nxL actN actL
          rw [hkeep.1, hkeep.2]; exact ⟨rfl, rfl⟩
        rw [hkk.1] at k2 k4
        rw [hkk.2] at k4
        refine ⟨[], List.nodup_nil, (fun c hc => by cases hc), rfl, rfl, (fun j c p hj hp => by cases hj), fun j o hj hm ho => ?_⟩
        cases j with
        | zero => cases ho; exact ⟨_, rfl, k2⟩
        | succ j => cases j with
          | zero => cases ho; exact ⟨_, rfl, k3⟩
          | succ j => cases j with
            | zero => cases ho; exact ⟨_, rfl, k4⟩
            | succ j => exact absurd hj (by show ¬ (j + 3 < 3); omega)
    · cases hx
  · cases hx
end Go.Ideal

set_option maxRecDepth 1000000
namespace Go.Ideal
open Go.Proofs
theorem pfAg_ok (x : Value) : PfOk XAg (pfAg x) := pf_cons (fun _ _ _ h => footPf_ok (by kernel_rfl) h) (pf_cons (hintPf_ok fun _ _ _ h => footPf_ok (by kernel_rfl) h) (pf_cons (fun _ _ _ h => footPf_ok (by kernel_rfl) h) (pf_cons (hintPf_ok fun _ _ _ h => footPf_ok (by kernel_rfl) h)
  (pf_cons (fun _ _ _ h => footPf_ok (by kernel_rfl) h) (pf_cons (fun _ _ _ h => footPf_ok (by kernel_rfl) h) (noPf_ok _))))))
theorem allAg : AllOk Tryz.prog tab42 fsAg := AllOk.cons iok_all (AllOk.cons iok_lists (AllOk.cons iok_strs (AllOk.cons iok_cost (AllOk.cons iok_costM (AllOk.cons iok_unsM (AllOk.nil _ _))))))
noncomputable def agrG (args : List Value) (objs : List IObj) : GT :=
  match args, objs with
  | [.pointer (some ⟨9, 0, none⟩), .pointer (some ⟨10, 0, none⟩)], [.cells [.pointer (some ⟨10, 0, none⟩), .int .i64 c0, .int .i64 c1, .int .i64 c2, .int .i64 c3, .int .i64 c4, .int .i64 c5, .int .i64 c6, .slice (some ⟨11, 0, some 0⟩) nn cap] 0 _, .abs (.pack (.model m)) _, .abs (.pack (.maps n cur)) _] =>
    .ask ((nn = n + 1 ∧ cap = capU) ∧ ∃ i, i < 1000 ∧ KInv [c0, c1, c2, c3, c4, c5, c6] m n cur i)
      (.ret ⟨.bool true, [some (.cells (knC [c0, c1, c2, c3, c4, c5, c6] 10 11 (n + 1)) 0 false), some (.abs (.pack (.model m)) false), some (.abs (.pack (.maps n cur)) false)], []⟩)
  | _, _ => .fail
theorem strsEq_self (l : List (EK.C kS)) : strsEq l l = true := by unfold strsEq; simp
theorem agr_run {cfg : List Int} {m : MSt} {n i : Nat} {cur : List (EK.C kSS)} (h : KInv cfg m n cur i) :
    EndsN XAg 12 f_drumlinlaw42_known_agrees (fun v H => v = .bool true ∧ KnAt cfg m n cur 11 12 H) (st f_drumlinlaw42_known_agrees 47 [p9, .pointer (some ⟨10, 0, none⟩)] (hKn cfg m n cur)) := by
  have hn : n < 1000000 := by have := h.nlen; have := h.le; omega
  have hl : List.length cur < 1000000 := by have := h.len; have := h.le; omega
  have hk1 : (kysOf cur).length = cur.length := by unfold kysOf; rw [List.length_map]
  have hk2 : (vlsOf cur).length = cur.length := by unfold vlsOf; rw [List.length_map]
  refine (EndsIn.toN (VCp_ok (pfAg_ok (hint12 cur)) (ids := [9, 10, 11, 12]) (Q := fun v os => v = .bool true ∧ os = [some (.cells (knC cfg 10 11 (n + 1)) 0 false), some (.abs (.pack (.model m)) false), some (.vec [.tok] (kRow n 12 cur.length) false), some (.vec kSS cur false)]) 400 _ ?_)).mono ?_
  · rw [vc_agr, h.now, strsEq_self, strsEq_self, h.cost]
    have e1 : (costOf cur == costOf cur) = true := by simp
    have e2 : ((m.ups.length : Int) == IntKind.wrap IntKind.i64 (Int.ofNat (n + 1) - 1)) = true := by rw [row_ix hn, h.ups]; simp
    refine ⟨hl, bif_true (row_t1 hn) (bif_true (row_t2 hn) ⟨row_v hn, ⟨⟨rfl, rfl⟩, hl⟩, ⟨⟨hk1.symm, rfl⟩, ⟨hk1.symm, rfl⟩, by omega, by omega⟩, bif_tt ⟨⟨⟨hk2.symm, rfl⟩, ⟨hk2.symm, rfl⟩, by omega, by omega⟩, bif_tt ⟨rfl, rfl, bif_true (row_t1 hn) (bif_true (row_t2 hn) ⟨row_v hn, ⟨⟨rfl, rfl⟩, smallL_of h.small (by have := h.len; have := h.le; omega)⟩, bif_true e1 ⟨rfl, rfl, rfl, rfl, rfl, rfl, rfl, bif_true e2 ⟨rfl, ?_⟩⟩⟩)⟩⟩⟩)⟩
    first | rfl | (unfold knC; rw [capL]; rfl)
  · rintro v H ⟨rfl, hh⟩
    have hh : [H.get 9, H.get 10, H.get 11, H.get 12] = _ := hh
    simp only [List.cons.injEq, and_true] at hh
    obtain ⟨g9, g10, g11, g12⟩ := hh
    exact ⟨rfl, by decide, g9, g10, g11, g12⟩
theorem iok_agr : IOk Tryz.prog tab42 f_drumlinlaw42_known_agrees (footF tab42 9 [true, true, true] agrG) := by
  refine iok_footD allAg (by kernel_rfl) (n := 47) (by kernel_rfl) (by kernel_rfl) fun argsc objs x hx hro => ?_
  unfold agrG at hx
  split at hx
  · rename_i c0 c1 c2 c3 c4 c5 c6 nn cap r0 m r1 n cur r2
    simp only [GT.run] at hx
    split at hx
    · rename_i hok
      obtain ⟨⟨rfl, rfl⟩, i, hi, hinv⟩ := hok
      have e0 : r0 = false := hro 0 _ rfl rfl
      have e1 : r1 = false := hro 1 _ rfl rfl
      have e2 : r2 = false := hro 2 _ rfl rfl
      subst e0 e1 e2
      generalize hcfg : [c0, c1, c2, c3, c4, c5, c6] = cfg at *
      have hroot : IObj.cells [.pointer (some ⟨10, 0, none⟩), .int .i64 c0, .int .i64 c1, .int .i64 c2, .int .i64 c3, .int .i64 c4, .int .i64 c5, .int .i64 c6, .slice (some ⟨11, 0, some 0⟩) (n + 1) capU] 0 false = .cells (knC cfg 10 11 (n + 1)) 0 false := by rw [← hcfg]; rfl
      cases hx
      refine ⟨by simp, ?_⟩
      rw [hroot]
      show EndsD XAg 12 (fun b => 9 ≤ b ∧ b < 12) f_drumlinlaw42_known_agrees _ (st f_drumlinlaw42_known_agrees 47 [p9, .pointer (some ⟨10, 0, none⟩)] (kn0 cfg m n cur))
      refine EndsD.shut (openKn (agr_run hinv).toD) ?_
      rintro v H ⟨rfl, hK⟩
      obtain ⟨H2, k1, k2, k3, k4⟩ := shutKn (D := fun b => 9 ≤ b ∧ b < 9 + 3) (v := .bool true) ⟨by decide, by decide⟩ hK
      refine ⟨H2, k1, [], List.nodup_nil, (fun c hc => by cases hc), rfl, rfl, (fun j c p hj hp => by cases hj), fun j o hj hm ho => ?_⟩
      cases j with
      | zero => cases ho; exact ⟨_, rfl, k2⟩
      | succ j => cases j with
        | zero => cases ho; exact ⟨_, rfl, k3⟩
        | succ j => cases j with
          | zero => cases ho; exact ⟨_, rfl, k4⟩
          | succ j => exact absurd hj (by show ¬ (j + 3 < 3); omega)
    · cases hx
  · cases hx
end Go.Ideal

--CASTS
set_option maxRecDepth 1000000
namespace Go.Ideal
open Go.Proofs
theorem vc_beg (slots : Int) (Q : Value → List (Option IObj) → Prop) : VCp XM pfM f_drumlinlaw42_begin [26, 27, 28, 29, 30] Q 3000 (st f_drumlinlaw42_begin 28 [.int .u8 slots] ⟨.leaf, 9⟩) = (
 (((.int IntKind.i64 0) : Value) = (.int IntKind.i64 0)) ∧
 (((.agg ⟨[(.int IntKind.i64 1), (.int IntKind.i64 1), (.int IntKind.i64 2)]⟩) : Value) = (.agg ⟨[(.int IntKind.i64 1), (.int IntKind.i64 1), (.int IntKind.i64 2)]⟩)) ∧
 (((.int IntKind.i64 1) : Value) = (.int IntKind.i64 1)) ∧
 (((.pointer (some ⟨14, 6, none⟩)) : Value) = (.pointer (some ⟨14, 6, none⟩))) ∧
 (((.agg ⟨[(.int IntKind.i64 (IntKind.wrap IntKind.i64 (4 + IntKind.wrap IntKind.i64 (Int.tmod slots 8)))), (.int IntKind.i64 100), (.int IntKind.i64 2), (.int IntKind.i64 200), (.int IntKind.i64 8), (.int IntKind.i64 16), (.int IntKind.i64 1)]⟩) : Value) = (.agg ⟨[(.int IntKind.i64 (IntKind.wrap IntKind.i64 (4 + IntKind.wrap IntKind.i64 (Int.tmod slots 8)))), (.int IntKind.i64 100), (.int IntKind.i64 2), (.int IntKind.i64 200), (.int IntKind.i64 8), (.int IntKind.i64 16), (.int IntKind.i64 1)]⟩)) ∧
 (((.int IntKind.i64 200) : Value) = (.int IntKind.i64 200)) ∧
 (((.pointer (some ⟨14, 3, none⟩)) : Value) = (.pointer (some ⟨14, 3, none⟩))) ∧
 (((.int IntKind.i64 100) : Value) = (.int IntKind.i64 100)) ∧
 (((.pointer (some ⟨14, 1, none⟩)) : Value) = (.pointer (some ⟨14, 1, none⟩))) ∧
 (((.agg ⟨[(.int IntKind.i64 16), (.int IntKind.i64 0), (.int IntKind.i64 512)]⟩) : Value) = (.agg ⟨[(.int IntKind.i64 16), (.int IntKind.i64 0), (.int IntKind.i64 512)]⟩)) ∧
 (((.int IntKind.i64 16) : Value) = (.int IntKind.i64 16)) ∧
 (((.pointer (some ⟨14, 5, none⟩)) : Value) = (.pointer (some ⟨14, 5, none⟩))) ∧
 (((.agg ⟨[(.int IntKind.i64 8), (.int IntKind.i64 1), (.int IntKind.i64 32)]⟩) : Value) = (.agg ⟨[(.int IntKind.i64 8), (.int IntKind.i64 1), (.int IntKind.i64 32)]⟩)) ∧
 (((.int IntKind.i64 8) : Value) = (.int IntKind.i64 8)) ∧
 (((.pointer (some ⟨14, 4, none⟩)) : Value) = (.pointer (some ⟨14, 4, none⟩))) ∧
 (((.agg ⟨[(.int IntKind.i64 (IntKind.wrap IntKind.i64 (4 + IntKind.wrap IntKind.i64 (Int.tmod slots 8)))), (.int IntKind.i64 4), (.int IntKind.i64 32)]⟩) : Value) = (.agg ⟨[(.int IntKind.i64 (IntKind.wrap IntKind.i64 (4 + IntKind.wrap IntKind.i64 (Int.tmod slots 8)))), (.int IntKind.i64 4), (.int IntKind.i64 32)]⟩)) ∧
 (((.int IntKind.i64 4) : Value) = (.int IntKind.i64 4)) ∧
 (((.int IntKind.i64 2) : Value) = (.int IntKind.i64 2)) ∧
 (((.pointer (some ⟨14, 2, none⟩)) : Value) = (.pointer (some ⟨14, 2, none⟩))) ∧
 (((.int IntKind.i64 (IntKind.wrap IntKind.i64 (4 + IntKind.wrap IntKind.i64 (Int.tmod slots 8)))) : Value) = (.int IntKind.i64 (IntKind.wrap IntKind.i64 (4 + IntKind.wrap IntKind.i64 (Int.tmod slots 8))))) ∧
 (((.pointer (some ⟨14, 0, none⟩)) : Value) = (.pointer (some ⟨14, 0, none⟩))) ∧
 (((.agg ⟨[(.int IntKind.i64 2), (.int IntKind.i64 2), (.int IntKind.i64 8)]⟩) : Value) = (.agg ⟨[(.int IntKind.i64 2), (.int IntKind.i64 2), (.int IntKind.i64 8)]⟩)) ∧
 (((.int IntKind.i64 2) : Value) = (.int IntKind.i64 2)) ∧
 (((.pointer (some ⟨14, 2, none⟩)) : Value) = (.pointer (some ⟨14, 2, none⟩))) ∧
 (((.agg ⟨[(.int IntKind.i64 100), (.int IntKind.i64 56), (.int IntKind.i64 8192)]⟩) : Value) = (.agg ⟨[(.int IntKind.i64 100), (.int IntKind.i64 56), (.int IntKind.i64 8192)]⟩)) ∧
 (((.int IntKind.i64 56) : Value) = (.int IntKind.i64 56)) ∧
 (((.int IntKind.i64 0) : Value) = (.int IntKind.i64 0)) ∧
 (((.agg ⟨[(.int IntKind.i64 1), (.int IntKind.i64 1), (.int IntKind.i64 2)]⟩) : Value) = (.agg ⟨[(.int IntKind.i64 1), (.int IntKind.i64 1), (.int IntKind.i64 2)]⟩)) ∧
 (((.int IntKind.i64 1) : Value) = (.int IntKind.i64 1)) ∧
 (((.pointer (some ⟨14, 6, none⟩)) : Value) = (.pointer (some ⟨14, 6, none⟩))) ∧
 (((.int IntKind.i64 200) : Value) = (.int IntKind.i64 200)) ∧
 (((.pointer (some ⟨14, 3, none⟩)) : Value) = (.pointer (some ⟨14, 3, none⟩))) ∧
 (((.int IntKind.i64 100) : Value) = (.int IntKind.i64 100)) ∧
 (((.pointer (some ⟨14, 1, none⟩)) : Value) = (.pointer (some ⟨14, 1, none⟩))) ∧
 (((.agg ⟨[(.int IntKind.i64 16), (.int IntKind.i64 0), (.int IntKind.i64 512)]⟩) : Value) = (.agg ⟨[(.int IntKind.i64 16), (.int IntKind.i64 0), (.int IntKind.i64 512)]⟩)) ∧
 (((.int IntKind.i64 16) : Value) = (.int IntKind.i64 16)) ∧
 (((.pointer (some ⟨14, 5, none⟩)) : Value) = (.pointer (some ⟨14, 5, none⟩))) ∧
 (((.agg ⟨[(.int IntKind.i64 8), (.int IntKind.i64 1), (.int IntKind.i64 32)]⟩) : Value) = (.agg ⟨[(.int IntKind.i64 8), (.int IntKind.i64 1), (.int IntKind.i64 32)]⟩)) ∧
 (((.int IntKind.i64 8) : Value) = (.int IntKind.i64 8)) ∧
 (((.pointer (some ⟨14, 4, none⟩)) : Value) = (.pointer (some ⟨14, 4, none⟩))) ∧
 (((.agg ⟨[(.int IntKind.i64 (IntKind.wrap IntKind.i64 (4 + IntKind.wrap IntKind.i64 (Int.tmod slots 8)))), (.int IntKind.i64 4), (.int IntKind.i64 32)]⟩) : Value) = (.agg ⟨[(.int IntKind.i64 (IntKind.wrap IntKind.i64 (4 + IntKind.wrap IntKind.i64 (Int.tmod slots 8)))), (.int IntKind.i64 4), (.int IntKind.i64 32)]⟩)) ∧
 (((.int IntKind.i64 4) : Value) = (.int IntKind.i64 4)) ∧
 (((.int IntKind.i64 2) : Value) = (.int IntKind.i64 2)) ∧
 (((.pointer (some ⟨14, 2, none⟩)) : Value) = (.pointer (some ⟨14, 2, none⟩))) ∧
 (((.int IntKind.i64 (IntKind.wrap IntKind.i64 (4 + IntKind.wrap IntKind.i64 (Int.tmod slots 8)))) : Value) = (.int IntKind.i64 (IntKind.wrap IntKind.i64 (4 + IntKind.wrap IntKind.i64 (Int.tmod slots 8))))) ∧
 (((.pointer (some ⟨14, 0, none⟩)) : Value) = (.pointer (some ⟨14, 0, none⟩))) ∧
 (((.agg ⟨[(.int IntKind.i64 2), (.int IntKind.i64 2), (.int IntKind.i64 8)]⟩) : Value) = (.agg ⟨[(.int IntKind.i64 2), (.int IntKind.i64 2), (.int IntKind.i64 8)]⟩)) ∧
 (((.int IntKind.i64 2) : Value) = (.int IntKind.i64 2)) ∧
 (((.pointer (some ⟨14, 2, none⟩)) : Value) = (.pointer (some ⟨14, 2, none⟩))) ∧
 (bif decide (IntKind.wrap IntKind.i64 (4 + IntKind.wrap IntKind.i64 (Int.tmod slots 8)) < 4) then
  (Q (.pointer none) [none, none, none, none, none])
 else
  (bif decide (IntKind.wrap IntKind.i64 (4 + IntKind.wrap IntKind.i64 (Int.tmod slots 8)) > 32) then
   (Q (.pointer none) [none, none, none, none, none])
  else
   (((.int IntKind.i64 (IntKind.wrap IntKind.i64 (IntKind.wrap IntKind.i64 (IntKind.wrap IntKind.i64 (4 + IntKind.wrap IntKind.i64 (Int.tmod slots 8)) - 2) - 2))) : Value) = (.int IntKind.i64 (IntKind.wrap IntKind.i64 (IntKind.wrap IntKind.i64 (IntKind.wrap IntKind.i64 (4 + IntKind.wrap IntKind.i64 (Int.tmod slots 8)) - 2) - 2)))) ∧
   (((.int IntKind.i64 (IntKind.wrap IntKind.i64 (IntKind.wrap IntKind.i64 (4 + IntKind.wrap IntKind.i64 (Int.tmod slots 8)) - 2))) : Value) = (.int IntKind.i64 (IntKind.wrap IntKind.i64 (IntKind.wrap IntKind.i64 (4 + IntKind.wrap IntKind.i64 (Int.tmod slots 8)) - 2)))) ∧
   (((.int IntKind.i64 2) : Value) = (.int IntKind.i64 2)) ∧
   (((.pointer (some ⟨12, 2, none⟩)) : Value) = (.pointer (some ⟨12, 2, none⟩))) ∧
   (((.int IntKind.i64 (IntKind.wrap IntKind.i64 (4 + IntKind.wrap IntKind.i64 (Int.tmod slots 8)))) : Value) = (.int IntKind.i64 (IntKind.wrap IntKind.i64 (4 + IntKind.wrap IntKind.i64 (Int.tmod slots 8))))) ∧
   (((.pointer (some ⟨12, 0, none⟩)) : Value) = (.pointer (some ⟨12, 0, none⟩))) ∧
   (((.int IntKind.i64 (IntKind.wrap IntKind.i64 (Int.tdiv (IntKind.wrap IntKind.i64 (IntKind.wrap IntKind.i64 (IntKind.wrap IntKind.i64 (IntKind.wrap IntKind.i64 (4 + IntKind.wrap IntKind.i64 (Int.tmod slots 8)) - 2) - 2) * 84)) 2))) : Value) = (.int IntKind.i64 (IntKind.wrap IntKind.i64 (Int.tdiv (IntKind.wrap IntKind.i64 (IntKind.wrap IntKind.i64 (IntKind.wrap IntKind.i64 (IntKind.wrap IntKind.i64 (4 + IntKind.wrap IntKind.i64 (Int.tmod slots 8)) - 2) - 2) * 84)) 2)))) ∧
   (((.agg ⟨[(.int IntKind.i64 (IntKind.wrap IntKind.i64 (4 + IntKind.wrap IntKind.i64 (Int.tmod slots 8)))), (.int IntKind.i64 100), (.int IntKind.i64 2), (.int IntKind.i64 200), (.int IntKind.i64 8), (.int IntKind.i64 16), (.int IntKind.i64 1)]⟩) : Value) = (.agg ⟨[(.int IntKind.i64 (IntKind.wrap IntKind.i64 (4 + IntKind.wrap IntKind.i64 (Int.tmod slots 8)))), (.int IntKind.i64 100), (.int IntKind.i64 2), (.int IntKind.i64 200), (.int IntKind.i64 8), (.int IntKind.i64 16), (.int IntKind.i64 1)]⟩)) ∧
   (((.int IntKind.i64 (IntKind.wrap IntKind.i64 (Int.tdiv (IntKind.wrap IntKind.i64 (IntKind.wrap IntKind.i64 (IntKind.wrap IntKind.i64 (IntKind.wrap IntKind.i64 (4 + IntKind.wrap IntKind.i64 (Int.tmod slots 8)) - 2) - 2) * 84)) 2))) : Value) = (.int IntKind.i64 (IntKind.wrap IntKind.i64 (Int.tdiv (IntKind.wrap IntKind.i64 (IntKind.wrap IntKind.i64 (IntKind.wrap IntKind.i64 (IntKind.wrap IntKind.i64 (4 + IntKind.wrap IntKind.i64 (Int.tmod slots 8)) - 2) - 2) * 84)) 2)))) ∧
   (((.agg ⟨[(.int IntKind.i64 (IntKind.wrap IntKind.i64 (4 + IntKind.wrap IntKind.i64 (Int.tmod slots 8)))), (.int IntKind.i64 100), (.int IntKind.i64 2), (.int IntKind.i64 200), (.int IntKind.i64 8), (.int IntKind.i64 16), (.int IntKind.i64 1)]⟩) : Value) = (.agg ⟨[(.int IntKind.i64 (IntKind.wrap IntKind.i64 (4 + IntKind.wrap IntKind.i64 (Int.tmod slots 8)))), (.int IntKind.i64 100), (.int IntKind.i64 2), (.int IntKind.i64 200), (.int IntKind.i64 8), (.int IntKind.i64 16), (.int IntKind.i64 1)]⟩)) ∧
   (Q (.pointer (some ⟨30, 0, none⟩)) [some (.abs (Abs.pack (Pk.table [])) false), some (.abs (Abs.pack (Pk.table [])) false), some (.cells [(.int IntKind.i64 (IntKind.wrap IntKind.i64 (4 + IntKind.wrap IntKind.i64 (Int.tmod slots 8)))), (.int IntKind.i64 100), (.int IntKind.i64 2), (.int IntKind.i64 200), (.int IntKind.i64 8), (.int IntKind.i64 16), (.int IntKind.i64 1), (.int IntKind.i64 (IntKind.wrap IntKind.i64 (Int.tdiv (IntKind.wrap IntKind.i64 (IntKind.wrap IntKind.i64 (IntKind.wrap IntKind.i64 (IntKind.wrap IntKind.i64 (4 + IntKind.wrap IntKind.i64 (Int.tmod slots 8)) - 2) - 2) * 84)) 2))), (.pointer (some ⟨26, 0, none⟩)), (.pointer (some ⟨27, 0, none⟩)), (.int IntKind.i64 0), (.slice none 0 0), (.pointer none), (.int IntKind.i64 0), (.bool false)] 0 false), some (.cells [(.slice none 0 0)] 1 false), some (.cells [(.pointer (some ⟨28, 0, none⟩)), (.int IntKind.i64 (IntKind.wrap IntKind.i64 (4 + IntKind.wrap IntKind.i64 (Int.tmod slots 8)))), (.int IntKind.i64 100), (.int IntKind.i64 2), (.int IntKind.i64 200), (.int IntKind.i64 8), (.int IntKind.i64 16), (.int IntKind.i64 1), (.slice (some ⟨29, 0, none⟩) 1 1)] 0 false), some (.cells [(.pointer (some ⟨28, 0, none⟩)), (.int IntKind.i64 (IntKind.wrap IntKind.i64 (4 + IntKind.wrap IntKind.i64 (Int.tmod slots 8)))), (.int IntKind.i64 100), (.int IntKind.i64 2), (.int IntKind.i64 200), (.int IntKind.i64 8), (.int IntKind.i64 16), (.int IntKind.i64 1), (.slice (some ⟨29, 0, none⟩) 1 1)] 0 false)])))) := by kernel_rfl
end Go.Ideal
