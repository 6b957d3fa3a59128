/-
  Part of the proof: the machine that runs a program by fixed orders, and that each of its runs is a run of the model; or a run of it in parts. No conditions.
-/
import Derived.Test.YtfgamdmnljnonaaGreatDoorIdCtx2
import Derived.Test.YtfgamdmnljnonaaGreatDoorAbr
import Derived.Test.YtfgamdmnljnonaaGreatDoorWrkK
import Derived.Test.YtfgamdmnljnonaaGreatDoorRepBs
import Derived.Test.YtfgamdmnljnonaaGreatDoorIdSim2
import Derived.Laws.Strings
set_option maxRecDepth 1000000
namespace Go.Ideal
open Go.Proofs
noncomputable def st (f : FuncId) (n : Nat) (args : List Value) (H : IHeap) : Cfg := startC f (fillTmps 0 args .leaf) n (pcOf Tryz.prog f []) H
noncomputable def hp0 : IHeap := ⟨.leaf, 20⟩
noncomputable def X0 : Ctx := ctxI Tryz.prog tabLaid []
end Go.Ideal

set_option maxRecDepth 1000000
namespace Go.Ideal
open Go.Proofs
noncomputable def txtT (s : ByteArray) (out b : List (EK.C kU8)) (sv bv : Value) (n i : Int) : Cfg :=
  ⟨⟨f_codec_Hex, mkT [(3, sv), (10, bv), (11, .int .i64 n), (12, .int .i64 i)], 28, [.code (pcOf Tryz.prog f_codec_Hex [1, 1, 0, 1, 0, 0]), .inLoop (pcOf Tryz.prog f_codec_Hex [1, 1, 0, 1, 0, 0]), .inBlock 0, .code (pcOf Tryz.prog f_codec_Hex [1, 1, 1])], [], false, .normal, none⟩,
    [⟨f_value_Text, mkT [(0, .string s), (2, .string ⟨#[]⟩), (3, .int .i64 0), (4, .int .i64 0), (5, .string s), (6, .int .i64 0), (7, .int .i64 0), (8, .bool false), (10, .string s), (11, .bool false), (12, .string s), (13, bv)], 15, [regOf (pcOf Tryz.prog f_value_Text [1, 1, 1, 0]) 2, .code .ret], [], false, .normal, none⟩],
    putRows (putRows hp0 false [⟨kU8, out⟩]) false [⟨kU8, b⟩]⟩
def txtS : Stop := ⟨f_codec_Hex, 1, 3, 20, [], [3, 10, 11, 12]⟩
theorem vc_txt0 (s : ByteArray) (Q : Value → List (Option IObj) → Prop) (R : Cfg → Prop) : VCs X0 noPf f_value_Text [] txtS Q R 2000 (st f_value_Text 15 [.string s] hp0) = (
 (bif decide (Int.ofNat (ByteArray.size s) > 512) then
  (Q (.tuple ⟨[(.string ({ data := #[] })), (.int IntKind.i64 12)]⟩) [])
 else
  (bif ByteArray.toList s == ByteArray.toList { data := #[] } then
   (Q (.tuple ⟨[(.string ({ data := #[45] })), (.int IntKind.i64 0)]⟩) [])
  else
   (bif decide (0 ≤ IntKind.wrap IntKind.i64 (2 * Int.ofNat (ByteArray.size s))) && decide (IntKind.wrap IntKind.i64 (2 * Int.ofNat (ByteArray.size s)) ≤ 140737488355328) then
    (R (txtT s [] (strInts s) (.slice (some ⟨20, 0, (some 0)⟩) 0 18446744073709551616) (.slice (some ⟨21, 0, (some 0)⟩) (ByteArray.size s) 18446744073709551616) (Int.ofNat (ByteArray.size s)) 0))
   else
    False)))) := by kernel_rfl
theorem vc_txt1 (s : ByteArray) (out b : List (EK.C kU8)) (m : Nat) (bn : Nat) (n i : Int) (Q : Value → List (Option IObj) → Prop) (R : Cfg → Prop) : VCs X0 noPf f_value_Text [] txtS Q R 2000 (txtT s out b (.slice (some ⟨20, 0, some 0⟩) m capU) (.slice (some ⟨21, 0, some 0⟩) bn capU) n i) = (
 (bif decide (i < n) then
  (bif decide (0 ≤ i) && Nat.blt (Int.toNat i) bn then
   (bif Nat.blt (0 + Int.toNat i) (List.length b) then
    (bif decide (0 ≤ Int.fdiv (List.getD b (0 + Int.toNat i) (EK.dflt kU8)) (2 ^ min 4 (IntKind.bits IntKind.u8))) && Nat.blt (Int.toNat (Int.fdiv (List.getD b (0 + Int.toNat i) (EK.dflt kU8)) (2 ^ min 4 (IntKind.bits IntKind.u8)))) (ByteArray.size { data := #[48, 49, 50, 51, 52, 53, 54, 55, 56, 57, 97, 98, 99, 100, 101, 102] }) then
     (bif decide (0 ≤ IntKind.wrap IntKind.u8 ↑(BitVec.toNat (BitVec.ofInt (IntKind.bits IntKind.u8) (List.getD b (0 + Int.toNat i) (EK.dflt kU8)) &&& BitVec.ofInt (IntKind.bits IntKind.u8) 15))) && Nat.blt (Int.toNat (IntKind.wrap IntKind.u8 ↑(BitVec.toNat (BitVec.ofInt (IntKind.bits IntKind.u8) (List.getD b (0 + Int.toNat i) (EK.dflt kU8)) &&& BitVec.ofInt (IntKind.bits IntKind.u8) 15)))) (ByteArray.size { data := #[48, 49, 50, 51, 52, 53, 54, 55, 56, 57, 97, 98, 99, 100, 101, 102] }) then
      (bif true && Nat.ble (0 + m) (List.length out) && bigOk 1 (m + 2) then
       (R (txtT s (List.take m (List.drop 0 out) ++ [strAt { data := #[48, 49, 50, 51, 52, 53, 54, 55, 56, 57, 97, 98, 99, 100, 101, 102] } (Int.toNat (Int.fdiv (List.getD b (0 + Int.toNat i) (EK.dflt kU8)) (2 ^ min 4 (IntKind.bits IntKind.u8)))), strAt { data := #[48, 49, 50, 51, 52, 53, 54, 55, 56, 57, 97, 98, 99, 100, 101, 102] } (Int.toNat (IntKind.wrap IntKind.u8 ↑(BitVec.toNat (BitVec.ofInt (IntKind.bits IntKind.u8) (List.getD b (0 + Int.toNat i) (EK.dflt kU8)) &&& BitVec.ofInt (IntKind.bits IntKind.u8) 15))))]) b (.slice (some ⟨20, 0, (some 0)⟩) (m + 2) 18446744073709551616) (.slice (some ⟨21, 0, (some 0)⟩) bn 18446744073709551616) n (IntKind.wrap IntKind.i64 (i + 1))))
      else
       False)
     else
      False)
    else
     False)
   else
    False)
  else
   False)
 else
  (bif Nat.ble (0 + m) (List.length out) then
   (Q (.tuple ⟨[(.string (bytesV (List.take m (List.drop 0 out)))), (.int IntKind.i64 0)]⟩) [])
  else
   False))) := by kernel_rfl
end Go.Ideal

set_option maxRecDepth 100000
namespace Go.Ideal
abbrev digs : ByteArray := { data := #[48, 49, 50, 51, 52, 53, 54, 55, 56, 57, 97, 98, 99, 100, 101, 102] }
def hx2 (x : Int) : List Int := [strAt digs (Int.toNat (Int.tdiv x 16)), strAt digs (Int.toNat (Int.tmod x 16))]
def hexOf (l : List Int) : List Int := l.flatMap hx2
def inB (x : Int) : Prop := 0 ≤ x ∧ x < 256
theorem byte_all {p : Int → Prop} [∀ x, Decidable (p x)] (h : (∀ n : _root_.Fin 256, p (n.1 : Int))) {x : Int} (hx : inB x) : p x := by
  obtain ⟨h0, h1⟩ := hx
  have := h ⟨x.toNat, by omega⟩
  rwa [show ((x.toNat : Nat) : Int) = x by omega] at this
theorem hx2_shift {x : Int} (hx : inB x) : [strAt digs (Int.toNat (Int.fdiv x (2 ^ min 4 (IntKind.bits IntKind.u8)))), strAt digs (Int.toNat (IntKind.wrap IntKind.u8 ↑(BitVec.toNat (BitVec.ofInt (IntKind.bits IntKind.u8) x &&& BitVec.ofInt (IntKind.bits IntKind.u8) 15))))] = hx2 x :=
  byte_all (p := fun x => [strAt digs (Int.toNat (Int.fdiv x (2 ^ min 4 (IntKind.bits IntKind.u8)))), strAt digs (Int.toNat (IntKind.wrap IntKind.u8 ↑(BitVec.toNat (BitVec.ofInt (IntKind.bits IntKind.u8) x &&& BitVec.ofInt (IntKind.bits IntKind.u8) 15))))] = hx2 x) (by decide +kernel) hx
theorem shift_ok {x : Int} (hx : inB x) : (decide (0 ≤ Int.fdiv x (2 ^ min 4 (IntKind.bits IntKind.u8))) && Nat.blt (Int.toNat (Int.fdiv x (2 ^ min 4 (IntKind.bits IntKind.u8)))) (ByteArray.size digs)) = true :=
  byte_all (p := fun x => (decide (0 ≤ Int.fdiv x (2 ^ min 4 (IntKind.bits IntKind.u8))) && Nat.blt (Int.toNat (Int.fdiv x (2 ^ min 4 (IntKind.bits IntKind.u8)))) (ByteArray.size digs)) = true) (by decide +kernel) hx
theorem mask_ok {x : Int} (hx : inB x) : (decide (0 ≤ IntKind.wrap IntKind.u8 ↑(BitVec.toNat (BitVec.ofInt (IntKind.bits IntKind.u8) x &&& BitVec.ofInt (IntKind.bits IntKind.u8) 15))) && Nat.blt (Int.toNat (IntKind.wrap IntKind.u8 ↑(BitVec.toNat (BitVec.ofInt (IntKind.bits IntKind.u8) x &&& BitVec.ofInt (IntKind.bits IntKind.u8) 15)))) (ByteArray.size digs)) = true :=
  byte_all (p := fun x => (decide (0 ≤ IntKind.wrap IntKind.u8 ↑(BitVec.toNat (BitVec.ofInt (IntKind.bits IntKind.u8) x &&& BitVec.ofInt (IntKind.bits IntKind.u8) 15))) && Nat.blt (Int.toNat (IntKind.wrap IntKind.u8 ↑(BitVec.toNat (BitVec.ofInt (IntKind.bits IntKind.u8) x &&& BitVec.ofInt (IntKind.bits IntKind.u8) 15)))) (ByteArray.size digs)) = true) (by decide +kernel) hx
theorem quo_ok {x : Int} (hx : inB x) : (decide (0 ≤ IntKind.wrap IntKind.u8 (Int.tdiv x 16)) && Nat.blt (Int.toNat (IntKind.wrap IntKind.u8 (Int.tdiv x 16))) (ByteArray.size digs)) = true ∧ IntKind.wrap IntKind.u8 (Int.tdiv x 16) = Int.tdiv x 16 :=
  byte_all (p := fun x => (decide (0 ≤ IntKind.wrap IntKind.u8 (Int.tdiv x 16)) && Nat.blt (Int.toNat (IntKind.wrap IntKind.u8 (Int.tdiv x 16))) (ByteArray.size digs)) = true ∧ IntKind.wrap IntKind.u8 (Int.tdiv x 16) = Int.tdiv x 16) (by decide +kernel) hx
theorem rem_ok {x : Int} (hx : inB x) : (decide (0 ≤ Int.tmod x 16) && Nat.blt (Int.toNat (Int.tmod x 16)) (ByteArray.size digs)) = true :=
  byte_all (p := fun x => (decide (0 ≤ Int.tmod x 16) && Nat.blt (Int.toNat (Int.tmod x 16)) (ByteArray.size digs)) = true) (by decide +kernel) hx
theorem strAt_in (s : ByteArray) (i : Nat) : inB (strAt s i) := by
  unfold strAt inB
  have := (s.data.toList.getD i 0).toNat_lt
  omega
theorem strInts_getD (s : ByteArray) (i : Nat) (h : i < s.size) : List.getD (strInts s) i 0 = strAt s i := by
  unfold strInts strAt
  have : i < s.data.toList.length := by simpa using h
  rw [List.getD_eq_getElem?_getD, List.getD_eq_getElem?_getD, List.getElem?_map, List.getElem?_eq_getElem this]
  rfl
theorem hexOf_length : ∀ l : List Int, (hexOf l).length = 2 * l.length
  | [] => rfl
  | x :: l => by
    have := hexOf_length l
    unfold hexOf at this ⊢
    rw [List.flatMap_cons, List.length_append, this]
    simp [hx2]; omega
theorem hexOf_take (s : ByteArray) (i : Nat) (h : i < s.size) : hexOf ((strInts s).take (i + 1)) = hexOf ((strInts s).take i) ++ hx2 (strAt s i) := by
  have hl : i < (strInts s).length := by rw [strInts_length]; exact h
  rw [List.take_succ_eq_append_getElem hl]
  unfold hexOf
  rw [List.flatMap_append, List.flatMap_singleton]
  have := strInts_getD s i h
  rw [List.getD_eq_getElem?_getD, List.getElem?_eq_getElem hl] at this
  rw [← this]; rfl
noncomputable def vstr (s : ByteArray) : ByteArray := if s.size > 512 then ⟨#[]⟩ else if s.size = 0 then ⟨#[45]⟩ else bytesV (hexOf (strInts s))
def verr (s : ByteArray) : Int := if s.size > 512 then 12 else 0
noncomputable def vtxt (s : ByteArray) : Value := .tuple ⟨[.string (vstr s), .int .i64 (verr s)]⟩
end Go.Ideal

set_option maxRecDepth 1000000
namespace Go.Ideal
open Go.Proofs
theorem capU_eq : capU = 18446744073709551616 := by kernel_rfl
theorem big_byte {m : Nat} (h : m ≤ 2000000) : bigOk 1 m = true := by
  unfold bigOk
  rw [Bool.and_eq_true]
  exact ⟨Nat.ble_eq_true_of_le (by omega), Nat.ble_eq_true_of_le (by omega)⟩
theorem at_ok {i n : Nat} (h : i < n) : (decide ((0 : Int) ≤ (i : Int)) && Nat.blt (Int.toNat (i : Int)) n) = true := by
  rw [Int.toNat_natCast, show Nat.blt i n = true from Nat.ble_eq_true_of_le h]; simp
theorem at_ok0 {i n : Nat} (h : i < n) : Nat.blt (0 + Int.toNat (i : Int)) n = true := by
  rw [Int.toNat_natCast, Nat.zero_add]; exact Nat.ble_eq_true_of_le h
noncomputable def hexV (s : ByteArray) : Value := .tuple ⟨[.string (bytesV (hexOf (strInts s))), .int .i64 0]⟩
theorem vtxt_long {s : ByteArray} (h : s.size > 512) : vtxt s = .tuple ⟨[.string ⟨#[]⟩, .int .i64 12]⟩ := by
  unfold vtxt vstr verr
  rw [if_pos h, if_pos h]
theorem vtxt_nil {s : ByteArray} (h : s.size = 0) : vtxt s = .tuple ⟨[.string ⟨#[45]⟩, .int .i64 0]⟩ := by
  unfold vtxt vstr verr
  rw [if_neg (by omega), if_pos h, if_neg (by omega)]
theorem vtxt_hex {s : ByteArray} (h : s.size ≤ 512) (h2 : s.size ≠ 0) : vtxt s = hexV s := by
  unfold vtxt vstr verr hexV
  rw [if_neg (by omega), if_neg h2, if_neg (by omega)]
theorem take_full {s : ByteArray} {i : Nat} (h : s.size ≤ i) : (strInts s).take i = strInts s := List.take_of_length_le (by rw [strInts_length]; exact h)
theorem out_len {s : ByteArray} {i : Nat} (h : i ≤ s.size) : (hexOf ((strInts s).take i)).length = 2 * i := by
  rw [hexOf_length, List.length_take, strInts_length, Nat.min_eq_left h]
theorem txt_loop (s : ByteArray) (hs : s.size ≤ 512) : ∀ (m i : Nat), s.size - i = m → i ≤ s.size →
    EndsN X0 20 f_value_Text (fun v _ => v = hexV s) (txtT s (hexOf ((strInts s).take i)) (strInts s) (.slice (some ⟨20, 0, some 0⟩) (2 * i) capU) (.slice (some ⟨21, 0, some 0⟩) s.size capU) s.size i) := by
  intro m
  induction m with
  | zero =>
    intro i hm hi
    refine VCs_ok (noPf_ok X0) (ids := []) (S := txtS) rfl (Q := fun v _ => v = hexV s) (R := fun _ => False) (fun v H h => h) (fun c h => h.elim) 2000 _ ?_
    rw [vc_txt1]
    refine bif_decide (fun h => ?_) (fun _ => ?_)
    · exfalso; have : (i : Int) < s.size := h; omega
    refine bif_true (by rw [out_len hi, Nat.zero_add]; exact Nat.ble_eq_true_of_le (Nat.le_refl _)) ?_
    show Value.tuple _ = hexV s
    unfold hexV
    rw [List.drop_zero, List.take_of_length_le (by rw [out_len hi]; exact Nat.le_refl _), take_full (by omega)]
  | succ m ih =>
    intro i hm hi
    have hlt : i < s.size := by omega
    refine VCs_ok (noPf_ok X0) (ids := []) (S := txtS) rfl (Q := fun v _ => v = hexV s)
      (R := fun c => c = txtT s (hexOf ((strInts s).take (i + 1))) (strInts s) (.slice (some ⟨20, 0, some 0⟩) (2 * (i + 1)) capU) (.slice (some ⟨21, 0, some 0⟩) s.size capU) s.size (i + 1 : Nat)) (fun v H h => h) (fun c h => by rw [h]; exact ih (i + 1) (by omega) (by omega)) 2000 _ ?_
    rw [vc_txt1]
    refine bif_decide (fun _ => ?_) (fun h => absurd (show (i : Int) < (s.size : Int) by omega) h)
    have hg : List.getD (strInts s) (0 + Int.toNat (i : Int)) (EK.dflt kU8) = strAt s i := by
      rw [Int.toNat_natCast, Nat.zero_add]; exact strInts_getD s i hlt
    rw [hg]
    have hin := strAt_in s i
    refine bif_true (at_ok hlt) (bif_true (at_ok0 (by rw [strInts_length]; exact hlt)) (bif_true (shift_ok hin) (bif_true (mask_ok hin) (bif_true ?_ ?_))))
    · rw [big_byte (by omega), out_len hi, Nat.zero_add, show Nat.ble (2 * i) (2 * i) = true from Nat.ble_eq_true_of_le (Nat.le_refl _)]; rfl
    · rw [hexOf_take s i hlt, List.drop_zero, List.take_of_length_le (by rw [out_len hi]; exact Nat.le_refl _), hx2_shift hin, wrap64 (by omega) (by omega), show 2 * (i + 1) = 2 * i + 2 by omega, show ((i + 1 : Nat) : Int) = (i : Int) + 1 by omega, capU_eq]
theorem str_empty {s : ByteArray} : (ByteArray.toList s == ByteArray.toList { data := #[] }) = decide (s.size = 0) := by
  rw [ByteArray.toList_eq, ByteArray.toList_eq]
  rcases s with ⟨⟨l⟩⟩
  cases l <;> rfl
theorem txt_ends (s : ByteArray) : EndsN X0 20 f_value_Text (fun v _ => v = vtxt s) (st f_value_Text 15 [.string s] hp0) := by
  refine VCs_ok (noPf_ok X0) (ids := []) (S := txtS) rfl (Q := fun v _ => v = vtxt s)
    (R := fun c => s.size ≤ 512 ∧ s.size ≠ 0 ∧ c = txtT s [] (strInts s) (.slice (some ⟨20, 0, some 0⟩) 0 capU) (.slice (some ⟨21, 0, some 0⟩) s.size capU) s.size 0) (fun v H h => h) (fun c h => ?_) 2000 _ ?_
  · obtain ⟨h1, h2, rfl⟩ := h
    refine EndsN.mono (txt_loop s h1 s.size 0 (by omega) (by omega)) fun v H h => ?_
    rw [h, vtxt_hex h1 h2]
  rw [vc_txt0]
  refine bif_decide (fun h => ?_) (fun h => ?_)
  · exact (vtxt_long (by have : (s.size : Int) > 512 := h; omega)).symm
  have h1 : s.size ≤ 512 := by have : ¬ (s.size : Int) > 512 := h; omega
  rw [str_empty]
  refine bif_decide (fun h => (vtxt_nil h).symm) (fun h => ?_)
  rw [show Int.ofNat s.size = (s.size : Int) from rfl, wrap64 (by omega) (by omega)]
  refine bif_true (by simp; omega) ⟨h1, h, ?_⟩
  rw [capU_eq]
theorem IOk.sub {P : Program} {laid : List (Nat × List Value)} {f : FuncId} {F G : IFun} (h : IOk P laid f G) (hs : ∀ args H r, F args H = some r → G args H = some r) : IOk P laid f F :=
  ⟨h.1, fun base W0 μ H W args args' v H' hW hH hl ha hF => h.2 base W0 μ H W args args' v H' hW hH hl ha (hs _ _ _ hF)⟩
theorem tm_plain {laid : List (Nat × List Value)} {N m : Nat} {v : Value} {Hf : IHeap} {olds : List (Option IObj)} (hv : flatN 6 v = true) : TMatch laid N m [] ⟨v, olds, []⟩ v Hf :=
  ⟨[], List.nodup_nil, fun b hb => (by cases hb), rfl, ren_flat 6 v hv, fun j b o hj => (by cases hj), fun j o _ hm => (by cases hm)⟩
noncomputable def txtG (args : List Value) (objs : List IObj) : GT := match args, objs with
  | [.string s], [] => .ret ⟨vtxt s, [], []⟩
  | _, _ => .fail
noncomputable def fTxt : IFun := fun args H => match args with
  | [.string s] => some (vtxt s, H)
  | _ => none
theorem txt_foot (args : List Value) (H : IHeap) (r : Value × IHeap) (h : fTxt args H = some r) : footF tabLaid 20 [] txtG args H = some r := by
  unfold fTxt at h
  split at h
  · rename_i s
    cases h
    rfl
  · cases h
theorem iok_txtG {f : FuncId} {n : Nat} (he : entry Tryz.prog f = some (n, pcOf Tryz.prog f [])) (hn : 1 ≤ n) (hE : ∀ s, EndsN X0 20 f (fun v _ => v = vtxt s) (st f n [.string s] hp0)) : IOk Tryz.prog tabLaid f fTxt :=
  IOk.sub (iok_foot (fs := []) (AllOk.nil _ _) (by kernel_rfl) (n := n) (N := 20) (muts := []) (G := txtG) he rfl fun argsc objs x hx _ => by
    unfold txtG at hx
    split at hx
    · rename_i s _
      simp only [GT.run] at hx
      cases hx
      refine ⟨by simpa using hn, EndsN.mono (hE s) fun v H h => ?_⟩
      subst h
      exact tm_plain (by rfl)
    · cases hx) txt_foot
theorem iok_txt : IOk Tryz.prog tabLaid f_value_Text fTxt := iok_txtG (n := 15) (by kernel_rfl) (by omega) txt_ends
end Go.Ideal

set_option maxRecDepth 1000000
namespace Go.Ideal
open Go.Proofs
theorem wrapU64 {x : Int} (h1 : 0 ≤ x) (h2 : x ≤ 9223372036854775807) : IntKind.wrap .u64 x = x := by
  show (if (false && decide (x % 18446744073709551616 ≥ 9223372036854775808)) = true then x % 18446744073709551616 - 18446744073709551616 else x % 18446744073709551616) = x
  simp only [Bool.false_and, Bool.false_eq_true, if_false]
  omega
noncomputable def dice (x s z r w k v p : Int) : IObj := .cells [.int .u32 x, .int .i64 s, .int .i64 z, .int .i64 r, .int .i64 w, .int .i64 k, .int .i64 v, .int .i64 p] 0 false
noncomputable def pd : Value := .pointer (some ⟨20, 0, none⟩)
theorem vc_below (x s z r w k v p n : Int) (Q : Value → List (Option IObj) → Prop) : VC X0 f_play_dice_below [20] Q 1000 (st f_play_dice_below 22 [pd, .int .i64 n] (hp0.alloc (dice x s z r w k v p))) = (
 (bif decide (n ≠ 0) then
  (Q (.int IntKind.i64 (Int.tmod (IntKind.wrap IntKind.i64 (Int.fdiv (IntKind.wrap IntKind.u32 (IntKind.wrap IntKind.u32 (69069 * x) + 1)) (2 ^ min 16 (IntKind.bits IntKind.u32)))) n)) [some (.cells [(.int IntKind.u32 (IntKind.wrap IntKind.u32 (IntKind.wrap IntKind.u32 (69069 * x) + 1))), (.int IntKind.i64 s), (.int IntKind.i64 z), (.int IntKind.i64 r), (.int IntKind.i64 w), (.int IntKind.i64 k), (.int IntKind.i64 v), (.int IntKind.i64 p)] 0 false)])
 else
  False)) := by kernel_rfl
noncomputable def cfgV (s z r w k v p : Int) : Value := .agg ⟨[.int .i64 s, .int .i64 z, .int .i64 r, .int .i64 w, .int .i64 k, .int .i64 v, .int .i64 p]⟩
theorem vc_conf (s z r w k v p : Int) (Q : Value → List (Option IObj) → Prop) : VC X0 f_config_Check [] Q 1000 (st f_config_Check 55 [cfgV s z r w k v p] hp0) = (
 (((.int IntKind.i64 0) : Value) = (.int IntKind.i64 0)) ∧
 (((.agg ⟨[(.int IntKind.i64 p), (.int IntKind.i64 1), (.int IntKind.i64 2)]⟩) : Value) = (.agg ⟨[(.int IntKind.i64 p), (.int IntKind.i64 1), (.int IntKind.i64 2)]⟩)) ∧
 (((.int IntKind.i64 p) : Value) = (.int IntKind.i64 p)) ∧
 (((.pointer (some ⟨20, 6, none⟩)) : Value) = (.pointer (some ⟨20, 6, none⟩))) ∧
 (((.agg ⟨[(.int IntKind.i64 s), (.int IntKind.i64 z), (.int IntKind.i64 r), (.int IntKind.i64 w), (.int IntKind.i64 k), (.int IntKind.i64 v), (.int IntKind.i64 p)]⟩) : Value) = (.agg ⟨[(.int IntKind.i64 s), (.int IntKind.i64 z), (.int IntKind.i64 r), (.int IntKind.i64 w), (.int IntKind.i64 k), (.int IntKind.i64 v), (.int IntKind.i64 p)]⟩)) ∧
 (((.int IntKind.i64 w) : Value) = (.int IntKind.i64 w)) ∧
 (((.pointer (some ⟨20, 3, none⟩)) : Value) = (.pointer (some ⟨20, 3, none⟩))) ∧
 (((.int IntKind.i64 z) : Value) = (.int IntKind.i64 z)) ∧
 (((.pointer (some ⟨20, 1, none⟩)) : Value) = (.pointer (some ⟨20, 1, none⟩))) ∧
 (((.agg ⟨[(.int IntKind.i64 v), (.int IntKind.i64 0), (.int IntKind.i64 512)]⟩) : Value) = (.agg ⟨[(.int IntKind.i64 v), (.int IntKind.i64 0), (.int IntKind.i64 512)]⟩)) ∧
 (((.int IntKind.i64 v) : Value) = (.int IntKind.i64 v)) ∧
 (((.pointer (some ⟨20, 5, none⟩)) : Value) = (.pointer (some ⟨20, 5, none⟩))) ∧
 (((.agg ⟨[(.int IntKind.i64 k), (.int IntKind.i64 1), (.int IntKind.i64 32)]⟩) : Value) = (.agg ⟨[(.int IntKind.i64 k), (.int IntKind.i64 1), (.int IntKind.i64 32)]⟩)) ∧
 (((.int IntKind.i64 k) : Value) = (.int IntKind.i64 k)) ∧
 (((.pointer (some ⟨20, 4, none⟩)) : Value) = (.pointer (some ⟨20, 4, none⟩))) ∧
 (((.agg ⟨[(.int IntKind.i64 s), (.int IntKind.i64 (IntKind.wrap IntKind.i64 (r + 2))), (.int IntKind.i64 32)]⟩) : Value) = (.agg ⟨[(.int IntKind.i64 s), (.int IntKind.i64 (IntKind.wrap IntKind.i64 (r + 2))), (.int IntKind.i64 32)]⟩)) ∧
 (((.int IntKind.i64 (IntKind.wrap IntKind.i64 (r + 2))) : Value) = (.int IntKind.i64 (IntKind.wrap IntKind.i64 (r + 2)))) ∧
 (((.int IntKind.i64 r) : Value) = (.int IntKind.i64 r)) ∧
 (((.pointer (some ⟨20, 2, none⟩)) : Value) = (.pointer (some ⟨20, 2, none⟩))) ∧
 (((.int IntKind.i64 s) : Value) = (.int IntKind.i64 s)) ∧
 (((.pointer (some ⟨20, 0, none⟩)) : Value) = (.pointer (some ⟨20, 0, none⟩))) ∧
 (((.agg ⟨[(.int IntKind.i64 r), (.int IntKind.i64 2), (.int IntKind.i64 8)]⟩) : Value) = (.agg ⟨[(.int IntKind.i64 r), (.int IntKind.i64 2), (.int IntKind.i64 8)]⟩)) ∧
 (((.int IntKind.i64 r) : Value) = (.int IntKind.i64 r)) ∧
 (((.pointer (some ⟨20, 2, none⟩)) : Value) = (.pointer (some ⟨20, 2, none⟩))) ∧
 (((.agg ⟨[(.int IntKind.i64 z), (.int IntKind.i64 (IntKind.wrap IntKind.i64 (16 + IntKind.wrap IntKind.i64 (IntKind.wrap IntKind.i64 (16 + k) + v)))), (.int IntKind.i64 8192)]⟩) : Value) = (.agg ⟨[(.int IntKind.i64 z), (.int IntKind.i64 (IntKind.wrap IntKind.i64 (16 + IntKind.wrap IntKind.i64 (IntKind.wrap IntKind.i64 (16 + k) + v)))), (.int IntKind.i64 8192)]⟩)) ∧
 (((.int IntKind.i64 (IntKind.wrap IntKind.i64 (16 + IntKind.wrap IntKind.i64 (IntKind.wrap IntKind.i64 (16 + k) + v)))) : Value) = (.int IntKind.i64 (IntKind.wrap IntKind.i64 (16 + IntKind.wrap IntKind.i64 (IntKind.wrap IntKind.i64 (16 + k) + v))))) ∧
 (((.int IntKind.i64 0) : Value) = (.int IntKind.i64 0)) ∧
 (((.agg ⟨[(.int IntKind.i64 p), (.int IntKind.i64 1), (.int IntKind.i64 2)]⟩) : Value) = (.agg ⟨[(.int IntKind.i64 p), (.int IntKind.i64 1), (.int IntKind.i64 2)]⟩)) ∧
 (((.int IntKind.i64 p) : Value) = (.int IntKind.i64 p)) ∧
 (((.pointer (some ⟨20, 6, none⟩)) : Value) = (.pointer (some ⟨20, 6, none⟩))) ∧
 (((.int IntKind.i64 w) : Value) = (.int IntKind.i64 w)) ∧
 (((.pointer (some ⟨20, 3, none⟩)) : Value) = (.pointer (some ⟨20, 3, none⟩))) ∧
 (((.int IntKind.i64 z) : Value) = (.int IntKind.i64 z)) ∧
 (((.pointer (some ⟨20, 1, none⟩)) : Value) = (.pointer (some ⟨20, 1, none⟩))) ∧
 (((.agg ⟨[(.int IntKind.i64 v), (.int IntKind.i64 0), (.int IntKind.i64 512)]⟩) : Value) = (.agg ⟨[(.int IntKind.i64 v), (.int IntKind.i64 0), (.int IntKind.i64 512)]⟩)) ∧
 (((.int IntKind.i64 v) : Value) = (.int IntKind.i64 v)) ∧
 (((.pointer (some ⟨20, 5, none⟩)) : Value) = (.pointer (some ⟨20, 5, none⟩))) ∧
 (((.agg ⟨[(.int IntKind.i64 k), (.int IntKind.i64 1), (.int IntKind.i64 32)]⟩) : Value) = (.agg ⟨[(.int IntKind.i64 k), (.int IntKind.i64 1), (.int IntKind.i64 32)]⟩)) ∧
 (((.int IntKind.i64 k) : Value) = (.int IntKind.i64 k)) ∧
 (((.pointer (some ⟨20, 4, none⟩)) : Value) = (.pointer (some ⟨20, 4, none⟩))) ∧
 (((.agg ⟨[(.int IntKind.i64 s), (.int IntKind.i64 (IntKind.wrap IntKind.i64 (r + 2))), (.int IntKind.i64 32)]⟩) : Value) = (.agg ⟨[(.int IntKind.i64 s), (.int IntKind.i64 (IntKind.wrap IntKind.i64 (r + 2))), (.int IntKind.i64 32)]⟩)) ∧
 (((.int IntKind.i64 (IntKind.wrap IntKind.i64 (r + 2))) : Value) = (.int IntKind.i64 (IntKind.wrap IntKind.i64 (r + 2)))) ∧
 (((.int IntKind.i64 r) : Value) = (.int IntKind.i64 r)) ∧
 (((.pointer (some ⟨20, 2, none⟩)) : Value) = (.pointer (some ⟨20, 2, none⟩))) ∧
 (((.int IntKind.i64 s) : Value) = (.int IntKind.i64 s)) ∧
 (((.pointer (some ⟨20, 0, none⟩)) : Value) = (.pointer (some ⟨20, 0, none⟩))) ∧
 (((.agg ⟨[(.int IntKind.i64 r), (.int IntKind.i64 2), (.int IntKind.i64 8)]⟩) : Value) = (.agg ⟨[(.int IntKind.i64 r), (.int IntKind.i64 2), (.int IntKind.i64 8)]⟩)) ∧
 (((.int IntKind.i64 r) : Value) = (.int IntKind.i64 r)) ∧
 (((.pointer (some ⟨20, 2, none⟩)) : Value) = (.pointer (some ⟨20, 2, none⟩))) ∧
 (bif decide (r < 2) then
  (Q (.int IntKind.i64 2) [])
 else
  (bif decide (r > 8) then
   (Q (.int IntKind.i64 2) [])
  else
   (bif decide (s < IntKind.wrap IntKind.i64 (r + 2)) then
    (Q (.int IntKind.i64 2) [])
   else
    (bif decide (s > 32) then
     (Q (.int IntKind.i64 2) [])
    else
     (bif decide (k < 1) then
      (Q (.int IntKind.i64 2) [])
     else
      (bif decide (k > 32) then
       (Q (.int IntKind.i64 2) [])
      else
       (bif decide (v < 0) then
        (Q (.int IntKind.i64 2) [])
       else
        (bif decide (v > 512) then
         (Q (.int IntKind.i64 2) [])
        else
         (bif decide (z < IntKind.wrap IntKind.i64 (16 + IntKind.wrap IntKind.i64 (IntKind.wrap IntKind.i64 (16 + k) + v))) then
          (Q (.int IntKind.i64 2) [])
         else
          (bif decide (z > 8192) then
           (Q (.int IntKind.i64 2) [])
          else
           (bif decide (w < IntKind.wrap IntKind.i64 (2 * IntKind.wrap IntKind.i64 (IntKind.wrap IntKind.i64 (IntKind.wrap IntKind.i64 (16 + k) + v) + 16))) then
            (Q (.int IntKind.i64 2) [])
           else
            (bif decide (w > 65536) then
             (Q (.int IntKind.i64 2) [])
            else
             (bif decide (p < 1) then
              (Q (.int IntKind.i64 2) [])
             else
              (bif decide (p > 2) then
               (Q (.int IntKind.i64 2) [])
              else
               (Q (.int IntKind.i64 0) [])))))))))))))))) := by kernel_rfl
end Go.Ideal

set_option maxRecDepth 1000000
namespace Go.Ideal
open Go.Proofs
theorem tm_olds {laid : List (Nat × List Value)} {N m : Nat} {muts : List Bool} {v : Value} {Hf : IHeap} {olds : List (Option IObj)} (hv : flatN 6 v = true)
    (h : ∀ (j : Nat) (o : IObj), j < m → mutAt muts j = true → olds[j]? = some (some o) → ∃ o1, renO (TMatch.runOf laid N m []) o = some o1 ∧ Hf.get (N + j) = some o1) : TMatch laid N m muts ⟨v, olds, []⟩ v Hf :=
  ⟨[], List.nodup_nil, fun b hb => (by cases hb), rfl, ren_flat 6 v hv, fun j b o hj => (by cases hj), h⟩
theorem wrapU32 {x : Int} : IntKind.wrap .u32 x = x % 4294967296 := by
  show (if (false && decide (x % 4294967296 ≥ 2147483648)) = true then x % 4294967296 - 4294967296 else x % 4294967296) = x % 4294967296
  simp only [Bool.false_and, Bool.false_eq_true, if_false]
theorem nx_eq (x : Int) : IntKind.wrap .u32 (IntKind.wrap .u32 (69069 * x) + 1) = nx x := by
  rw [wrapU32, wrapU32]; unfold nx; omega
theorem sh16 : (2 : Int) ^ min 16 (IntKind.bits IntKind.u32) = 65536 := by decide
theorem fdiv_pos {a b : Int} (hb : 0 ≤ b) : Int.fdiv a b = a / b := Int.fdiv_eq_ediv_of_nonneg a hb
theorem dr_eq (x n : Int) (_ : 0 < n) : Int.tmod (IntKind.wrap .i64 (Int.fdiv (nx x) (2 ^ min 16 (IntKind.bits IntKind.u32)))) n = dr x n := by
  obtain ⟨h1, h2⟩ := nx_in x
  rw [sh16, fdiv_pos (by omega), wrap64 (by omega) (by omega), Int.tmod_eq_emod_of_nonneg (by omega)]
  rfl
noncomputable def belowG (args : List Value) (objs : List IObj) : GT := match args, objs with
  | [.pointer (some ⟨20, 0, none⟩), .int .i64 n], [.cells [.int .u32 x, .int .i64 s, .int .i64 z, .int .i64 r, .int .i64 w, .int .i64 k, .int .i64 v, .int .i64 p] 0 false] => .ask (0 < n) (.ret ⟨.int .i64 (dr x n), [some (dice (nx x) s z r w k v p)], []⟩)
  | _, _ => .fail
theorem get20 {o : IObj} : (hp0.alloc o).get 20 = some o := by rw [IHeap.get_alloc]; rfl
theorem iok_blw : IOk Tryz.prog tabLaid f_play_dice_below (footF tabLaid 20 [true] belowG) := by
  refine iok_foot (fs := []) (AllOk.nil _ _) (by kernel_rfl) (n := 22) (by kernel_rfl) (by kernel_rfl) fun argsc objs x hx hro => ?_
  unfold belowG at hx
  split at hx
  · rename_i n x0 s z r w k v p
    simp only [GT.run] at hx
    split at hx
    · rename_i hn
      cases hx
      refine ⟨by simp, EndsN.mono (Q := fun v' Hf => v' = .int .i64 (dr x0 n) ∧ Hf.get 20 = some (dice (nx x0) s z r w k v p)) ?_ fun v' Hf h => ?_⟩
      · refine (VC_ok (ids := [20]) (Q := fun v' os => v' = .int .i64 (dr x0 n) ∧ os = [some (dice (nx x0) s z r w k v p)]) 1000 _ ?_).toN.mono fun v' Hf h => ⟨h.1, ?_⟩
        · show VC X0 f_play_dice_below [20] _ 1000 (st f_play_dice_below 22 [pd, .int .i64 n] (hp0.alloc (dice x0 s z r w k v p)))
          rw [vc_below]
          refine bif_decide (fun _ => ?_) (fun h => absurd (Int.ne_of_gt hn) h)
          rw [nx_eq, dr_eq x0 n hn]
          exact ⟨rfl, rfl⟩
        · have h2 := h.2
          rw [h.1] at h2
          simp only [List.map_append, List.map_cons, List.map_nil] at h2
          exact (List.cons.inj h2).1
      · obtain ⟨rfl, h2⟩ := h
        refine tm_olds (by rfl) fun j o hj _ ho => ?_
        have hj : j = 0 := by simpa using hj
        subst hj
        cases ho
        exact ⟨_, rfl, h2⟩
    · cases hx
  · cases hx
end Go.Ideal

set_option maxRecDepth 1000000
namespace Go.Ideal
open Go.Proofs
def cfgOk (s z r w k v p : Int) : Prop := 2 ≤ r ∧ r ≤ 8 ∧ r + 2 ≤ s ∧ s ≤ 32 ∧ 1 ≤ k ∧ k ≤ 32 ∧ 0 ≤ v ∧ v ≤ 512 ∧ 32 + k + v ≤ z ∧ z ≤ 8192 ∧ 2 * (32 + k + v) ≤ w ∧ w ≤ 65536 ∧ 1 ≤ p ∧ p ≤ 2
instance (s z r w k v p : Int) : Decidable (cfgOk s z r w k v p) := by unfold cfgOk; exact inferInstance
def cfgErr (s z r w k v p : Int) : Int := if cfgOk s z r w k v p then 0 else 2
theorem cfg_no {s z r w k v p : Int} (h : ¬ cfgOk s z r w k v p) : (Value.int .i64 2) = .int .i64 (cfgErr s z r w k v p) := by unfold cfgErr; rw [if_neg h]
theorem cfg_yes {s z r w k v p : Int} (h : cfgOk s z r w k v p) : (Value.int .i64 0) = .int .i64 (cfgErr s z r w k v p) := by unfold cfgErr; rw [if_pos h]
theorem conf_ends (s z r w k v p : Int) : EndsIn X0 f_config_Check (fun v' _ => v' = .int .i64 (cfgErr s z r w k v p)) (st f_config_Check 55 [cfgV s z r w k v p] hp0) := by
  refine (VC_ok (ids := []) (Q := fun v' _ => v' = .int .i64 (cfgErr s z r w k v p)) 1000 _ ?_)
  rw [vc_conf]
  repeat (refine ⟨rfl, ?_⟩)
  refine bif_decide (fun h => cfg_no (by unfold cfgOk; omega)) fun h1 => ?_
  refine bif_decide (fun h => cfg_no (by unfold cfgOk; omega)) fun h2 => ?_
  rw [wrap64 (x := r + 2) (by omega) (by omega)]
  refine bif_decide (fun h => cfg_no (by unfold cfgOk; omega)) fun h3 => ?_
  refine bif_decide (fun h => cfg_no (by unfold cfgOk; omega)) fun h4 => ?_
  refine bif_decide (fun h => cfg_no (by unfold cfgOk; omega)) fun h5 => ?_
  refine bif_decide (fun h => cfg_no (by unfold cfgOk; omega)) fun h6 => ?_
  refine bif_decide (fun h => cfg_no (by unfold cfgOk; omega)) fun h7 => ?_
  refine bif_decide (fun h => cfg_no (by unfold cfgOk; omega)) fun h8 => ?_
  rw [wrap64 (x := 16 + k) (by omega) (by omega), wrap64 (x := 16 + k + v) (by omega) (by omega), wrap64 (x := 16 + (16 + k + v)) (by omega) (by omega)]
  refine bif_decide (fun h => cfg_no (by unfold cfgOk; omega)) fun h9 => ?_
  refine bif_decide (fun h => cfg_no (by unfold cfgOk; omega)) fun h10 => ?_
  rw [wrap64 (x := 16 + k + v + 16) (by omega) (by omega), wrap64 (x := 2 * (16 + k + v + 16)) (by omega) (by omega)]
  refine bif_decide (fun h => cfg_no (by unfold cfgOk; omega)) fun h11 => ?_
  refine bif_decide (fun h => cfg_no (by unfold cfgOk; omega)) fun h12 => ?_
  refine bif_decide (fun h => cfg_no (by unfold cfgOk; omega)) fun h13 => ?_
  refine bif_decide (fun h => cfg_no (by unfold cfgOk; omega)) fun h14 => ?_
  exact cfg_yes (by unfold cfgOk; omega)
noncomputable def fCfg : IFun := fun args H => match args with
  | [.agg ⟨[.int .i64 s, .int .i64 z, .int .i64 r, .int .i64 w, .int .i64 k, .int .i64 v, .int .i64 p]⟩] => some (.int .i64 (cfgErr s z r w k v p), H)
  | _ => none
noncomputable def cfgG (args : List Value) (objs : List IObj) : GT := match args, objs with
  | [.agg ⟨[.int .i64 s, .int .i64 z, .int .i64 r, .int .i64 w, .int .i64 k, .int .i64 v, .int .i64 p]⟩], [] => .ret ⟨.int .i64 (cfgErr s z r w k v p), [], []⟩
  | _, _ => .fail
theorem cfg_foot (args : List Value) (H : IHeap) (r : Value × IHeap) (h : fCfg args H = some r) : footF tabLaid 20 [] cfgG args H = some r := by
  unfold fCfg at h
  split at h
  · cases h; rfl
  · cases h
theorem iok_cfg {f : FuncId} {n : Nat} (he : entry Tryz.prog f = some (n, pcOf Tryz.prog f [])) (hn : 1 ≤ n) (hE : ∀ s z r w k v p, EndsIn X0 f (fun v' _ => v' = .int .i64 (cfgErr s z r w k v p)) (st f n [cfgV s z r w k v p] hp0)) : IOk Tryz.prog tabLaid f fCfg :=
  IOk.sub (iok_foot (fs := []) (AllOk.nil _ _) (by kernel_rfl) (n := n) (N := 20) (muts := []) (G := cfgG) he (by kernel_rfl) fun argsc objs x hx _ => by
    unfold cfgG at hx
    split at hx
    · cases hx
      refine ⟨by simpa using hn, EndsN.mono (hE _ _ _ _ _ _ _).toN fun v H h => ?_⟩
      subst h
      exact tm_plain (by rfl)
    · cases hx) cfg_foot
theorem iok_conf : IOk Tryz.prog tabLaid f_config_Check fCfg := iok_cfg (n := 55) (by kernel_rfl) (by omega) conf_ends
theorem slice_ok {n m : Int} {k : Nat} (h0 : 0 ≤ n) (h1 : n ≤ m) (h2 : m ≤ k) : (decide (0 ≤ m) && Nat.ble (Int.toNat m) k && decide (0 ≤ n) && Nat.ble (Int.toNat n) (Int.toNat m)) = true := by
  simp only [Bool.and_eq_true, decide_eq_true_eq]
  exact ⟨⟨⟨by omega, Nat.ble_eq_true_of_le (by omega)⟩, h0⟩, Nat.ble_eq_true_of_le (by omega)⟩
end Go.Ideal

namespace Go.Ideal
open Go.Lib
def isLet (s : ByteArray) : Prop := ∃ j : Int, 0 ≤ j ∧ j < 8 ∧ s = ltr 97 j
def planKs (z : Int) (ks : List Int) : Prop := 1 ≤ ks.length ∧ ks.length ≤ 3 ∧ ∀ k ∈ ks, 0 ≤ k ∧ k ≤ z
inductive OpGood (z v : Int) : EK.C kOp → Prop where
  | put (key val : ByteArray) (hk : isLet key) (hv : (val.size : Int) ≤ v) : OpGood z v (1, 0, 0, key, val)
  | del (key : ByteArray) (hk : isLet key) : OpGood z v (3, 0, 0, key, ByteArray.empty)
  | get (key : ByteArray) (hk : isLet key) : OpGood z v (2, 0, 0, key, ByteArray.empty)
  | plain (k : Int) (hk : k = 4 ∨ k = 5 ∨ k = 8) : OpGood z v (k, 0, 0, ByteArray.empty, ByteArray.empty)
  | policy (a : Int) (ha : a = 1 ∨ a = 2) : OpGood z v (6, a, 0, ByteArray.empty, ByteArray.empty)
  | crash (a b : Int) (ks : List Int) (ha : 0 ≤ a ∧ a < 12) (hb : b = 0 ∨ b = 1) (hks : planKs z ks) : OpGood z v (7, a, b, ByteArray.empty, bs (joinC ks))
theorem repS_len (c : ByteArray) (n : Int) (hc : c.size = 1) (h : 0 ≤ n) : ((repS c n).size : Int) = n := by
  obtain ⟨x, rfl⟩ := Go.Lib.one_byte c hc
  show ((repeatL [x] n.toNat).length : Int) = n
  have : (repeatL [x] n.toNat).length = n.toNat := by
    generalize n.toNat = m
    induction m with
    | zero => rfl
    | succ m ih => simp [repeatL] at ih ⊢ <;> omega
  omega
theorem join_one' (k : Int) : joinB [decB k] comma = bs (joinC [k]) := by rw [joinB_one]; rfl
theorem join_two' (k l : Int) : joinB [decB k, decB l] comma = bs (joinC [k, l]) := by
  rw [joinB_two]
  apply bs_ext
  rw [ByteArray.data_append, ByteArray.data_append, Array.toList_append, Array.toList_append]
  simp [bs, joinC, decB, comma]
theorem join_three' (k l m : Int) : joinB [decB k, decB l, decB m] comma = bs (joinC [k, l, m]) := by
  rw [joinB_three]
  apply bs_ext
  rw [ByteArray.data_append, ByteArray.data_append, ByteArray.data_append, ByteArray.data_append, Array.toList_append, Array.toList_append, Array.toList_append, Array.toList_append]
  simp [bs, joinC, decB, comma]
theorem crS_good (z v x : Int) (hz : 0 ≤ z) : OpGood z v (crS z x).1 := by
  have d1 := dr_in (nx (nx (nx x))) (z + 1) (by omega)
  have d2 := dr_in (nx (nx (nx (nx x)))) (z + 1) (by omega)
  have d3 := dr_in (nx (nx (nx (nx (nx x))))) (z + 1) (by omega)
  have da := dr_in x 12 (by omega)
  have db := dr_in (nx x) 2 (by omega)
  have hb : dr (nx x) 2 = 0 ∨ dr (nx x) 2 = 1 := by omega
  unfold crS
  split
  · rw [join_one']
    exact .crash _ _ _ da hb ⟨by simp, by simp, fun k hk => by
      have : k = dr (nx (nx (nx x))) (z + 1) := by simpa using hk
      omega⟩
  · split
    · rw [join_two']
      refine .crash _ _ _ da hb ⟨by simp, by simp, fun k hk => ?_⟩
      have : k = dr (nx (nx (nx x))) (z + 1) ∨ k = dr (nx (nx (nx (nx x)))) (z + 1) := by simpa using hk
      omega
    · rw [join_three']
      refine .crash _ _ _ da hb ⟨by simp, by simp, fun k hk => ?_⟩
      have : k = dr (nx (nx (nx x))) (z + 1) ∨ k = dr (nx (nx (nx (nx x)))) (z + 1) ∨ k = dr (nx (nx (nx (nx (nx x))))) (z + 1) := by simpa using hk
      omega
theorem opS_good (z v : Int) (cr : Bool) (x : Int) (hz : 0 ≤ z) (hv : 0 ≤ v) : OpGood z v (opS z v cr x).1 ∧ (cr = false → (opS z v cr x).1.1 ≠ 7 ∧ (opS z v cr x).1.1 ≠ 8) := by
  have hl := dr_in (nx x) 8 (by omega)
  have hl2 : isLet (ltr 97 (dr (nx x) 8)) := ⟨_, hl.1, hl.2, rfl⟩
  have hn := dr_in (nx (nx x)) (v + 1) (by omega)
  have hp := dr_in (nx x) 2 (by omega)
  unfold opS
  simp only
  split
  · refine ⟨.put _ _ hl2 ?_, fun _ => by simp⟩
    rw [repS_len _ _ rfl hn.1]; omega
  · split
    · exact ⟨.del _ hl2, fun _ => by simp⟩
    · split
      · exact ⟨.get _ hl2, fun _ => by simp⟩
      · split
        · exact ⟨.plain 4 (by simp), fun _ => by simp⟩
        · split
          · exact ⟨.plain 5 (by simp), fun _ => by simp⟩
          · split
            · cases cr
              · exact ⟨.plain 5 (by simp), fun _ => by simp⟩
              · exact ⟨.plain 8 (by simp), fun h => by cases h⟩
            · split
              · exact ⟨.policy _ (by omega), fun _ => by simp⟩
              · cases cr
                · exact ⟨.plain 5 (by simp), fun _ => by simp⟩
                · exact ⟨crS_good z v _ hz, fun h => by cases h⟩
theorem opsS_good (z v : Int) (cr : Bool) (x : Int) (hz : 0 ≤ z) (hv : 0 ≤ v) : ∀ (n : Nat) (o : EK.C kOp), o ∈ opsS z v cr x n → OpGood z v o ∧ (cr = false → o.1 ≠ 7 ∧ o.1 ≠ 8)
  | 0, o, h => by cases h
  | n + 1, o, h => by
    rcases List.mem_append.1 h with h | h
    · exact opsS_good z v cr x hz hv n o h
    · have : o = (opS z v cr (stS z v cr x n)).1 := by simpa using h
      rw [this]; exact opS_good z v cr _ hz hv
theorem opsS_take (z v : Int) (cr : Bool) (x : Int) (n : Nat) : ∀ m, (opsS z v cr x (n + m)).take n = opsS z v cr x n
  | 0 => by rw [Nat.add_zero, List.take_of_length_le (by rw [opsS_length]; omega)]
  | m + 1 => by
    show (opsS z v cr x (n + m) ++ _).take n = _
    rw [List.take_append_of_le_length (by rw [opsS_length]; omega), opsS_take z v cr x n m]
theorem OpGood.mono {z z' v v' : Int} (h : z ≤ z') (h' : v ≤ v') {o : EK.C kOp} (g : OpGood z v o) : OpGood z' v' o := by
  cases g with
  | put key val hk hv => exact .put key val hk (by omega)
  | del key hk => exact .del key hk
  | get key hk => exact .get key hk
  | plain k hk => exact .plain k hk
  | policy a ha => exact .policy a ha
  | crash a b ks ha hb hks => exact .crash a b ks ha hb ⟨hks.1, hks.2.1, fun k hk => ⟨(hks.2.2 k hk).1, by have := (hks.2.2 k hk).2; omega⟩⟩
theorem seed_xor (seed : Int) (h0 : 0 ≤ seed) (h : seed < 18446744073709551616) : IntKind.wrap .u64 ↑(BitVec.toNat (BitVec.ofInt (IntKind.bits IntKind.u64) seed ^^^ BitVec.ofInt (IntKind.bits IntKind.u64) 1099511627776)) % 4294967296 = seed % 4294967296 := by
  have hb : IntKind.bits IntKind.u64 = 64 := rfl
  rw [hb, BitVec.toNat_xor, BitVec.toNat_ofInt, BitVec.toNat_ofInt]
  have e1 : (seed % ((2 ^ 64 : Nat) : Int)).toNat = seed.toNat := by
    rw [Int.emod_eq_of_lt h0 (by simpa using h)]
  have e2 : ((1099511627776 : Int) % ((2 ^ 64 : Nat) : Int)).toNat = 2 ^ 40 := by decide
  rw [e1, e2]
  have hx : seed.toNat < 2 ^ 64 := by omega
  have hlt : seed.toNat ^^^ 2 ^ 40 < 2 ^ 64 := Nat.xor_lt_two_pow hx (by decide)
  have hw : IntKind.wrap .u64 ((seed.toNat ^^^ 2 ^ 40 : Nat) : Int) = ((seed.toNat ^^^ 2 ^ 40 : Nat) : Int) := by
    show (if (false && decide (((seed.toNat ^^^ 2 ^ 40 : Nat) : Int) % 18446744073709551616 ≥ 9223372036854775808)) = true then ((seed.toNat ^^^ 2 ^ 40 : Nat) : Int) % 18446744073709551616 - 18446744073709551616 else ((seed.toNat ^^^ 2 ^ 40 : Nat) : Int) % 18446744073709551616) = _
    simp only [Bool.false_and, Bool.false_eq_true, if_false]
    omega
  rw [hw]
  have hm : (seed.toNat ^^^ 2 ^ 40) % 2 ^ 32 = seed.toNat % 2 ^ 32 := by
    rw [Nat.xor_mod_two_pow]
    have : (2 : Nat) ^ 40 % 2 ^ 32 = 0 := by decide
    rw [this, Nat.xor_zero]
  omega
end Go.Ideal

set_option maxRecDepth 1000000
namespace Go.Ideal
open Go.Proofs
noncomputable def opO (k a b : Int) (key val : ByteArray) : IObj := .cells [.int .i64 k, .int .i64 a, .int .i64 b, .string key, .string val] 0 false
noncomputable def po : Value := .pointer (some ⟨21, 0, none⟩)
noncomputable def pfB : Pf := fun f => bif Nat.beq f f_play_dice_below then some (footPf tabLaid 20 [true] belowG) else bif Nat.beq f f_strconv_Itoa then some pItoa else bif Nat.beq f f_strings_Join then some pJoin else bif Nat.beq f f_strings_Repeat then some pRepeat else none
noncomputable abbrev bFs : List (FuncId × IFun) := [(f_play_dice_below, footF tabLaid 20 [true] belowG), (f_strconv_Itoa, itoaI), (f_strings_Join, joinI), (f_strings_Repeat, repeatI)]
noncomputable def XB : Ctx := ctxI Tryz.prog tabLaid bFs
noncomputable def fcT (x s z r w k v p kd a b : Int) (key val : ByteArray) (n : Int) : Cfg :=
  ⟨⟨f_play_fillCrash, mkT [(0, pd), (1, po), (4, .slice none 0 0), (17, .int .i64 n), (18, .int .i64 0)], 38, [.code (pcOf Tryz.prog f_play_fillCrash [1, 1, 0, 1, 0, 0]), .inLoop (pcOf Tryz.prog f_play_fillCrash [1, 1, 0, 1, 0, 0]), .inBlock 0, .code (pcOf Tryz.prog f_play_fillCrash [1, 1, 1])], [], false, .normal, none⟩, [],
    (hp0.alloc (dice x s z r w k v p)).alloc (opO kd a b key val)⟩
def fcS : Stop := ⟨f_play_fillCrash, 0, 3, 22, [20, 21], [0, 1, 4, 17, 18]⟩
theorem vc_fc0 (x s z r w k v p kd a b : Int) (key val : ByteArray) (Q : Value → List (Option IObj) → Prop) (R : Cfg → Prop) : VCs XB pfB f_play_fillCrash [20, 21] fcS Q R 2000 (st f_play_fillCrash 38 [pd, po] ((hp0.alloc (dice x s z r w k v p)).alloc (opO kd a b key val))) = (
 ((0 : Int) < 12) ∧
 ((0 : Int) < 2) ∧
 ((0 : Int) < 3) ∧
 (R (fcT (nx (nx (nx x))) s z r w k v p kd (dr x 12) (dr (nx x) 2) key val (IntKind.wrap IntKind.i64 (1 + dr (nx (nx x)) 3))))) := by kernel_rfl
theorem vc_fc1 (x s z r w k v p kd a b : Int) (key val : ByteArray) (Q : Value → List (Option IObj) → Prop) : VCp XB pfB f_play_fillCrash [20, 21] Q 2000 (fcT x s z r w k v p kd a b key val 1) = (
 (0 < IntKind.wrap IntKind.i64 (z + 1)) ∧
 (0 ≤ dr x (IntKind.wrap IntKind.i64 (z + 1)) ∧ dr x (IntKind.wrap IntKind.i64 (z + 1)) ≤ 9223372036854775807) ∧
 (ByteArray.size (joinB [decB (dr x (IntKind.wrap IntKind.i64 (z + 1)))] { data := #[44] }) ≤ 140737488355328) ∧
 (Q (.tuple ⟨[]⟩) [some (.cells [(.int IntKind.u32 (nx x)), (.int IntKind.i64 s), (.int IntKind.i64 z), (.int IntKind.i64 r), (.int IntKind.i64 w), (.int IntKind.i64 k), (.int IntKind.i64 v), (.int IntKind.i64 p)] 0 false), some (.cells [(.int IntKind.i64 kd), (.int IntKind.i64 a), (.int IntKind.i64 b), (.string key), (.string (joinB [decB (dr x (IntKind.wrap IntKind.i64 (z + 1)))] { data := #[44] }))] 0 false)])) := by kernel_rfl
theorem vc_fc2 (x s z r w k v p kd a b : Int) (key val : ByteArray) (Q : Value → List (Option IObj) → Prop) : VCp XB pfB f_play_fillCrash [20, 21] Q 2000 (fcT x s z r w k v p kd a b key val 2) = (
 (0 < IntKind.wrap IntKind.i64 (z + 1)) ∧
 (0 ≤ dr x (IntKind.wrap IntKind.i64 (z + 1)) ∧ dr x (IntKind.wrap IntKind.i64 (z + 1)) ≤ 9223372036854775807) ∧
 (0 < IntKind.wrap IntKind.i64 (z + 1)) ∧
 (0 ≤ dr (nx x) (IntKind.wrap IntKind.i64 (z + 1)) ∧ dr (nx x) (IntKind.wrap IntKind.i64 (z + 1)) ≤ 9223372036854775807) ∧
 (ByteArray.size (joinB [decB (dr x (IntKind.wrap IntKind.i64 (z + 1))), decB (dr (nx x) (IntKind.wrap IntKind.i64 (z + 1)))] { data := #[44] }) ≤ 140737488355328) ∧
 (Q (.tuple ⟨[]⟩) [some (.cells [(.int IntKind.u32 (nx (nx x))), (.int IntKind.i64 s), (.int IntKind.i64 z), (.int IntKind.i64 r), (.int IntKind.i64 w), (.int IntKind.i64 k), (.int IntKind.i64 v), (.int IntKind.i64 p)] 0 false), some (.cells [(.int IntKind.i64 kd), (.int IntKind.i64 a), (.int IntKind.i64 b), (.string key), (.string (joinB [decB (dr x (IntKind.wrap IntKind.i64 (z + 1))), decB (dr (nx x) (IntKind.wrap IntKind.i64 (z + 1)))] { data := #[44] }))] 0 false)])) := by kernel_rfl
theorem vc_fc3 (x s z r w k v p kd a b : Int) (key val : ByteArray) (Q : Value → List (Option IObj) → Prop) : VCp XB pfB f_play_fillCrash [20, 21] Q 2000 (fcT x s z r w k v p kd a b key val 3) = (
 (0 < IntKind.wrap IntKind.i64 (z + 1)) ∧
 (0 ≤ dr x (IntKind.wrap IntKind.i64 (z + 1)) ∧ dr x (IntKind.wrap IntKind.i64 (z + 1)) ≤ 9223372036854775807) ∧
 (0 < IntKind.wrap IntKind.i64 (z + 1)) ∧
 (0 ≤ dr (nx x) (IntKind.wrap IntKind.i64 (z + 1)) ∧ dr (nx x) (IntKind.wrap IntKind.i64 (z + 1)) ≤ 9223372036854775807) ∧
 (0 < IntKind.wrap IntKind.i64 (z + 1)) ∧
 (0 ≤ dr (nx (nx x)) (IntKind.wrap IntKind.i64 (z + 1)) ∧ dr (nx (nx x)) (IntKind.wrap IntKind.i64 (z + 1)) ≤ 9223372036854775807) ∧
 (ByteArray.size (joinB [decB (dr x (IntKind.wrap IntKind.i64 (z + 1))), decB (dr (nx x) (IntKind.wrap IntKind.i64 (z + 1))), decB (dr (nx (nx x)) (IntKind.wrap IntKind.i64 (z + 1)))] { data := #[44] }) ≤ 140737488355328) ∧
 (Q (.tuple ⟨[]⟩) [some (.cells [(.int IntKind.u32 (nx (nx (nx x)))), (.int IntKind.i64 s), (.int IntKind.i64 z), (.int IntKind.i64 r), (.int IntKind.i64 w), (.int IntKind.i64 k), (.int IntKind.i64 v), (.int IntKind.i64 p)] 0 false), some (.cells [(.int IntKind.i64 kd), (.int IntKind.i64 a), (.int IntKind.i64 b), (.string key), (.string (joinB [decB (dr x (IntKind.wrap IntKind.i64 (z + 1))), decB (dr (nx x) (IntKind.wrap IntKind.i64 (z + 1))), decB (dr (nx (nx x)) (IntKind.wrap IntKind.i64 (z + 1)))] { data := #[44] }))] 0 false)])) := by kernel_rfl
end Go.Ideal

set_option maxRecDepth 1000000
namespace Go.Ideal
open Go.Proofs
theorem pfB_ok : PfOk XB pfB := by
  intro f F hf args H K hF
  unfold pfB at hf
  cases h1 : Nat.beq f f_play_dice_below
  rotate_left
  · rw [h1] at hf; cases hf
    have := Nat.eq_of_beq_eq_true h1; subst this
    exact footPf_ok (X := XB) rfl hF
  rw [h1] at hf
  cases h2 : Nat.beq f f_strconv_Itoa
  rotate_left
  · rw [h2] at hf; cases hf
    have := Nat.eq_of_beq_eq_true h2; subst this
    exact pItoa_ok (X := XB) rfl hF
  rw [h2] at hf
  cases h3 : Nat.beq f f_strings_Join
  rotate_left
  · rw [h3] at hf; cases hf
    have := Nat.eq_of_beq_eq_true h3; subst this
    exact pJoin_ok (X := XB) rfl hF
  rw [h3] at hf
  cases h4 : Nat.beq f f_strings_Repeat
  · rw [h4] at hf; cases hf
  rw [h4] at hf; cases hf
  have := Nat.eq_of_beq_eq_true h4; subst this
  exact pRepeat_ok (X := XB) rfl hF
theorem dec_le {n : Int} (h : n ≤ 100000) : (decB n).size ≤ 7 := decB_size 6 n (by omega)
def FcQ (s z r w k v p kd : Int) (key : ByteArray) (x : Int) (v' : Value) (os : List (Option IObj)) : Prop :=
  v' = .tuple ⟨[]⟩ ∧ os = [some (dice (crS z x).2 s z r w k v p), some (opO kd (crS z x).1.2.1 (crS z x).1.2.2.1 key (crS z x).1.2.2.2.2)]
theorem fc_ends (x s z r w k v p kd a b : Int) (key val : ByteArray) (hz : 0 ≤ z) (hz2 : z ≤ 10000) :
    EndsN XB 22 f_play_fillCrash (fun v' Hf => FcQ s z r w k v p kd key x v' ([20, 21].map Hf.get)) (st f_play_fillCrash 38 [pd, po] ((hp0.alloc (dice x s z r w k v p)).alloc (opO kd a b key val))) := by
  obtain ⟨h3, h4⟩ := dr_in (nx (nx x)) 3 (by omega)
  have hw : IntKind.wrap .i64 (z + 1) = z + 1 := wrap64 (by omega) (by omega)
  have d1 := dr_in (nx (nx (nx x))) (z + 1) (by omega)
  have d2 := dr_in (nx (nx (nx (nx x)))) (z + 1) (by omega)
  have d3 := dr_in (nx (nx (nx (nx (nx x))))) (z + 1) (by omega)
  have sz1 := dec_le (n := dr (nx (nx (nx x))) (z + 1)) (by omega)
  have sz2 := dec_le (n := dr (nx (nx (nx (nx x)))) (z + 1)) (by omega)
  have sz3 := dec_le (n := dr (nx (nx (nx (nx (nx x))))) (z + 1)) (by omega)
  have hc : ByteArray.size { data := #[44] } = 1 := rfl
  refine VCs_ok pfB_ok (ids := [20, 21]) (S := fcS) rfl (Q := fun _ _ => False) (R := fun c => c = fcT (nx (nx (nx x))) s z r w k v p kd (dr x 12) (dr (nx x) 2) key val (1 + dr (nx (nx x)) 3)) (fun v H h => h.elim) (fun c hcc => ?_) 2000 _ ?_
  · rw [hcc]
    have hcases : dr (nx (nx x)) 3 = 0 ∨ dr (nx (nx x)) 3 = 1 ∨ dr (nx (nx x)) 3 = 2 := by omega
    refine EndsN.mono (Q := fun v' Hf => FcQ s z r w k v p kd key x v' (([20, 21] ++ refsN 4 v').map Hf.get)) ?_ fun v' Hf h => ?_
    · rcases hcases with h0 | h0 | h0
      · rw [h0]
        refine (VCp_ok pfB_ok (ids := [20, 21]) (Q := FcQ s z r w k v p kd key x) 2000 _ ?_).toN
        show VCp XB pfB f_play_fillCrash [20, 21] _ 2000 (fcT _ s z r w k v p kd _ _ key val 1)
        rw [vc_fc1, hw]
        refine ⟨by omega, ⟨d1.1, by omega⟩, ?_, rfl, ?_⟩
        · rw [joinB_one]; omega
        · unfold crS; simp only [h0, if_true]; rfl
      · rw [h0]
        refine (VCp_ok pfB_ok (ids := [20, 21]) (Q := FcQ s z r w k v p kd key x) 2000 _ ?_).toN
        show VCp XB pfB f_play_fillCrash [20, 21] _ 2000 (fcT _ s z r w k v p kd _ _ key val 2)
        rw [vc_fc2, hw]
        refine ⟨by omega, ⟨d1.1, by omega⟩, by omega, ⟨d2.1, by omega⟩, ?_, rfl, ?_⟩
        · rw [joinB_two, ByteArray.size_append, ByteArray.size_append, hc]; omega
        · unfold crS; simp only [h0, if_true, if_false, show ¬ (1 : Int) = 0 by omega]; rfl
      · rw [h0]
        refine (VCp_ok pfB_ok (ids := [20, 21]) (Q := FcQ s z r w k v p kd key x) 2000 _ ?_).toN
        show VCp XB pfB f_play_fillCrash [20, 21] _ 2000 (fcT _ s z r w k v p kd _ _ key val 3)
        rw [vc_fc3, hw]
        refine ⟨by omega, ⟨d1.1, by omega⟩, by omega, ⟨d2.1, by omega⟩, by omega, ⟨d3.1, by omega⟩, ?_, rfl, ?_⟩
        · rw [joinB_three, ByteArray.size_append, ByteArray.size_append, ByteArray.size_append, ByteArray.size_append, hc]; omega
        · unfold crS; simp only [h0, if_false, show ¬ (2 : Int) = 0 by omega, show ¬ (2 : Int) = 1 by omega]; rfl
    · have h1 := h.1
      rw [h1] at h ⊢
      exact h
  · rw [vc_fc0, wrap64 (x := 1 + dr (nx (nx x)) 3) (by omega) (by omega)]
    exact ⟨by omega, by omega, by omega, rfl⟩
open Classical in
noncomputable def fcG (args : List Value) (objs : List IObj) : GT := match args, objs with
  | [.pointer (some ⟨20, 0, none⟩), .pointer (some ⟨21, 0, none⟩)], [.cells [.int .u32 x, .int .i64 s, .int .i64 z, .int .i64 r, .int .i64 w, .int .i64 k, .int .i64 v, .int .i64 p] 0 false, .cells [.int .i64 kd, .int .i64 _, .int .i64 _, .string key, .string _] 0 false] =>
    .ask (0 ≤ z ∧ z ≤ 10000) (.ret ⟨.tuple ⟨[]⟩, [some (dice (crS z x).2 s z r w k v p), some (opO kd (crS z x).1.2.1 (crS z x).1.2.2.1 key (crS z x).1.2.2.2.2)], []⟩)
  | _, _ => .fail
theorem allB (h32 : IOk Tryz.prog tabLaid f_strconv_Itoa itoaI) (h76 : IOk Tryz.prog tabLaid f_strings_Join joinI) (h74 : IOk Tryz.prog tabLaid f_strings_Repeat repeatI) : AllOk Tryz.prog tabLaid bFs :=
  AllOk.cons iok_blw (AllOk.cons h32 (AllOk.cons h76 (AllOk.cons h74 (AllOk.nil _ _))))
theorem iok_fc (hA : AllOk Tryz.prog tabLaid bFs) : IOk Tryz.prog tabLaid f_play_fillCrash (footF tabLaid 20 [true, true] fcG) := by
  refine iok_foot (fs := bFs) hA (by kernel_rfl) (n := 38) (by kernel_rfl) (by kernel_rfl) fun argsc objs x hx hro => ?_
  unfold fcG at hx
  split at hx
  · rename_i x0 s z r w k v p kd a b key val
    simp only [GT.run] at hx
    split at hx
    · rename_i hz
      cases hx
      refine ⟨by simp, EndsN.mono (fc_ends x0 s z r w k v p kd a b key val hz.1 hz.2) fun v' Hf h => ?_⟩
      obtain ⟨rfl, h2⟩ := h
      have h3 := List.cons.inj h2
      have h4 := List.cons.inj h3.2
      refine tm_olds (by rfl) fun j o hj _ ho => ?_
      have hj : j < 2 := by simpa using hj
      rcases (show j = 0 ∨ j = 1 by omega) with rfl | rfl
      · cases ho; exact ⟨_, rfl, h3.1⟩
      · cases ho; exact ⟨_, rfl, h4.1⟩
    · cases hx
  · cases hx
end Go.Ideal

set_option maxRecDepth 1000000
namespace Go.Ideal
open Go.Proofs
noncomputable def fnV (f : Nat) : Value := .func (.func f) ⟨[]⟩ ⟨[]⟩
noncomputable def recL (cr : Bool) : List Value := [.int .i64 9, .int .i64 1, fnV f_play_fillPut, .int .i64 3, .int .i64 3, fnV f_play_fillKey, .int .i64 3, .int .i64 2, fnV f_play_fillKey, .int .i64 1, .int .i64 4, .nilFunc, .int .i64 1, .int .i64 5, .nilFunc,
  .int .i64 1, (bif cr then .int .i64 8 else .int .i64 5), .nilFunc, .int .i64 1, .int .i64 6, fnV f_play_fillPolicy, .int .i64 1, (bif cr then .int .i64 7 else .int .i64 5), (bif cr then fnV f_play_fillCrash else .nilFunc)]
noncomputable def recO (cr ro : Bool) : IObj := .cells (recL cr) 3 ro
noncomputable def rs : Value := .slice (some ⟨21, 0, none⟩) 8 8
noncomputable abbrev oFs : List (FuncId × IFun) := (f_play_fillCrash, footF tabLaid 20 [true, true] fcG) :: bFs
noncomputable def XO : Ctx := ctxI Tryz.prog tabLaid oFs
noncomputable def pfO : Pf := fun f => bif Nat.beq f f_play_fillCrash then some (footPf tabLaid 20 [true, true] fcG) else pfB f
theorem vc_opt (x s z r w k v p : Int) (Q : Value → List (Option IObj) → Prop) : VCp XO pfO f_play_dice_op [20] Q 4000 (st f_play_dice_op 36 [pd, rs] ((hp0.alloc (dice x s z r w k v p)).alloc (recO true true))) = (
 ((0 : Int) < 20) ∧
 (bif decide (IntKind.wrap IntKind.i64 (dr x 20 - 9) ≥ 0) then
  (bif decide (IntKind.wrap IntKind.i64 (IntKind.wrap IntKind.i64 (dr x 20 - 9) - 3) ≥ 0) then
   (bif decide (IntKind.wrap IntKind.i64 (IntKind.wrap IntKind.i64 (IntKind.wrap IntKind.i64 (dr x 20 - 9) - 3) - 3) ≥ 0) then
    (bif decide (IntKind.wrap IntKind.i64 (IntKind.wrap IntKind.i64 (IntKind.wrap IntKind.i64 (IntKind.wrap IntKind.i64 (dr x 20 - 9) - 3) - 3) - 1) ≥ 0) then
     (bif decide (IntKind.wrap IntKind.i64 (IntKind.wrap IntKind.i64 (IntKind.wrap IntKind.i64 (IntKind.wrap IntKind.i64 (IntKind.wrap IntKind.i64 (dr x 20 - 9) - 3) - 3) - 1) - 1) ≥ 0) then
      (bif decide (IntKind.wrap IntKind.i64 (IntKind.wrap IntKind.i64 (IntKind.wrap IntKind.i64 (IntKind.wrap IntKind.i64 (IntKind.wrap IntKind.i64 (IntKind.wrap IntKind.i64 (dr x 20 - 9) - 3) - 3) - 1) - 1) - 1) ≥ 0) then
       (bif decide (IntKind.wrap IntKind.i64 (IntKind.wrap IntKind.i64 (IntKind.wrap IntKind.i64 (IntKind.wrap IntKind.i64 (IntKind.wrap IntKind.i64 (IntKind.wrap IntKind.i64 (IntKind.wrap IntKind.i64 (dr x 20 - 9) - 3) - 3) - 1) - 1) - 1) - 1) ≥ 0) then
        (bif decide (IntKind.wrap IntKind.i64 (IntKind.wrap IntKind.i64 (IntKind.wrap IntKind.i64 (IntKind.wrap IntKind.i64 (IntKind.wrap IntKind.i64 (IntKind.wrap IntKind.i64 (IntKind.wrap IntKind.i64 (IntKind.wrap IntKind.i64 (dr x 20 - 9) - 3) - 3) - 1) - 1) - 1) - 1) - 1) ≥ 0) then
         (Q (.agg ⟨[(.int IntKind.i64 0), (.int IntKind.i64 0), (.int IntKind.i64 0), (.string ({ data := #[] })), (.string ({ data := #[] }))]⟩) [some (.cells [(.int IntKind.u32 (nx x)), (.int IntKind.i64 s), (.int IntKind.i64 z), (.int IntKind.i64 r), (.int IntKind.i64 w), (.int IntKind.i64 k), (.int IntKind.i64 v), (.int IntKind.i64 p)] 0 false)])
        else
         (0 ≤ z ∧ z ≤ 10000) ∧
         (Q (.agg ⟨[(.int IntKind.i64 7), (.int IntKind.i64 (Prod.fst (Prod.snd (Prod.fst (crS z (nx x)))))), (.int IntKind.i64 (Prod.fst (Prod.snd (Prod.snd (Prod.fst (crS z (nx x))))))), (.string ({ data := #[] })), (.string (Prod.snd (Prod.snd (Prod.snd (Prod.snd (Prod.fst (crS z (nx x))))))))]⟩) [some (.cells [(.int IntKind.u32 (Prod.snd (crS z (nx x)))), (.int IntKind.i64 s), (.int IntKind.i64 z), (.int IntKind.i64 r), (.int IntKind.i64 w), (.int IntKind.i64 k), (.int IntKind.i64 v), (.int IntKind.i64 p)] 0 false)]))
       else
        ((0 : Int) < 2) ∧
        (Q (.agg ⟨[(.int IntKind.i64 6), (.int IntKind.i64 (IntKind.wrap IntKind.i64 (1 + dr (nx x) 2))), (.int IntKind.i64 0), (.string ({ data := #[] })), (.string ({ data := #[] }))]⟩) [some (.cells [(.int IntKind.u32 (nx (nx x))), (.int IntKind.i64 s), (.int IntKind.i64 z), (.int IntKind.i64 r), (.int IntKind.i64 w), (.int IntKind.i64 k), (.int IntKind.i64 v), (.int IntKind.i64 p)] 0 false)]))
      else
       (Q (.agg ⟨[(.int IntKind.i64 8), (.int IntKind.i64 0), (.int IntKind.i64 0), (.string ({ data := #[] })), (.string ({ data := #[] }))]⟩) [some (.cells [(.int IntKind.u32 (nx x)), (.int IntKind.i64 s), (.int IntKind.i64 z), (.int IntKind.i64 r), (.int IntKind.i64 w), (.int IntKind.i64 k), (.int IntKind.i64 v), (.int IntKind.i64 p)] 0 false)]))
     else
      (Q (.agg ⟨[(.int IntKind.i64 5), (.int IntKind.i64 0), (.int IntKind.i64 0), (.string ({ data := #[] })), (.string ({ data := #[] }))]⟩) [some (.cells [(.int IntKind.u32 (nx x)), (.int IntKind.i64 s), (.int IntKind.i64 z), (.int IntKind.i64 r), (.int IntKind.i64 w), (.int IntKind.i64 k), (.int IntKind.i64 v), (.int IntKind.i64 p)] 0 false)]))
    else
     (Q (.agg ⟨[(.int IntKind.i64 4), (.int IntKind.i64 0), (.int IntKind.i64 0), (.string ({ data := #[] })), (.string ({ data := #[] }))]⟩) [some (.cells [(.int IntKind.u32 (nx x)), (.int IntKind.i64 s), (.int IntKind.i64 z), (.int IntKind.i64 r), (.int IntKind.i64 w), (.int IntKind.i64 k), (.int IntKind.i64 v), (.int IntKind.i64 p)] 0 false)]))
   else
    ((0 : Int) < 8) ∧
    (Q (.agg ⟨[(.int IntKind.i64 2), (.int IntKind.i64 0), (.int IntKind.i64 0), (.string ({ data := { toList := List.map (fun n => UInt8.ofNat (Int.toNat n)) [IntKind.wrap IntKind.u8 (97 + IntKind.wrap IntKind.u8 (dr (nx x) 8))] } })), (.string ({ data := #[] }))]⟩) [some (.cells [(.int IntKind.u32 (nx (nx x))), (.int IntKind.i64 s), (.int IntKind.i64 z), (.int IntKind.i64 r), (.int IntKind.i64 w), (.int IntKind.i64 k), (.int IntKind.i64 v), (.int IntKind.i64 p)] 0 false)]))
  else
   ((0 : Int) < 8) ∧
   (Q (.agg ⟨[(.int IntKind.i64 3), (.int IntKind.i64 0), (.int IntKind.i64 0), (.string ({ data := { toList := List.map (fun n => UInt8.ofNat (Int.toNat n)) [IntKind.wrap IntKind.u8 (97 + IntKind.wrap IntKind.u8 (dr (nx x) 8))] } })), (.string ({ data := #[] }))]⟩) [some (.cells [(.int IntKind.u32 (nx (nx x))), (.int IntKind.i64 s), (.int IntKind.i64 z), (.int IntKind.i64 r), (.int IntKind.i64 w), (.int IntKind.i64 k), (.int IntKind.i64 v), (.int IntKind.i64 p)] 0 false)]))
 else
  ((0 : Int) < 8) ∧
  (0 < IntKind.wrap IntKind.i64 (v + 1)) ∧
  ((0 : Int) < 26) ∧
  (0 ≤ dr (nx (nx x)) (IntKind.wrap IntKind.i64 (v + 1)) ∧ dr (nx (nx x)) (IntKind.wrap IntKind.i64 (v + 1)) ≤ 9223372036854775807 ∧ ByteArray.size { data := { toList := List.map (fun n => UInt8.ofNat (Int.toNat n)) [IntKind.wrap IntKind.u8 (65 + IntKind.wrap IntKind.u8 (dr (nx (nx (nx x))) 26))] } } * Int.toNat (dr (nx (nx x)) (IntKind.wrap IntKind.i64 (v + 1))) ≤ 140737488355328) ∧
  (Q (.agg ⟨[(.int IntKind.i64 1), (.int IntKind.i64 0), (.int IntKind.i64 0), (.string ({ data := { toList := List.map (fun n => UInt8.ofNat (Int.toNat n)) [IntKind.wrap IntKind.u8 (97 + IntKind.wrap IntKind.u8 (dr (nx x) 8))] } })), (.string ({ data := { toList := Lib.repeatL (Array.toList (ByteArray.data { data := { toList := List.map (fun n => UInt8.ofNat (Int.toNat n)) [IntKind.wrap IntKind.u8 (65 + IntKind.wrap IntKind.u8 (dr (nx (nx (nx x))) 26))] } })) (Int.toNat (dr (nx (nx x)) (IntKind.wrap IntKind.i64 (v + 1)))) } }))]⟩) [some (.cells [(.int IntKind.u32 (nx (nx (nx (nx x))))), (.int IntKind.i64 s), (.int IntKind.i64 z), (.int IntKind.i64 r), (.int IntKind.i64 w), (.int IntKind.i64 k), (.int IntKind.i64 v), (.int IntKind.i64 p)] 0 false)]))) := by kernel_rfl
theorem vc_opf (x s z r w k v p : Int) (Q : Value → List (Option IObj) → Prop) : VCp XO pfO f_play_dice_op [20] Q 4000 (st f_play_dice_op 36 [pd, rs] ((hp0.alloc (dice x s z r w k v p)).alloc (recO false true))) = (
 ((0 : Int) < 20) ∧
 (bif decide (IntKind.wrap IntKind.i64 (dr x 20 - 9) ≥ 0) then
  (bif decide (IntKind.wrap IntKind.i64 (IntKind.wrap IntKind.i64 (dr x 20 - 9) - 3) ≥ 0) then
   (bif decide (IntKind.wrap IntKind.i64 (IntKind.wrap IntKind.i64 (IntKind.wrap IntKind.i64 (dr x 20 - 9) - 3) - 3) ≥ 0) then
    (bif decide (IntKind.wrap IntKind.i64 (IntKind.wrap IntKind.i64 (IntKind.wrap IntKind.i64 (IntKind.wrap IntKind.i64 (dr x 20 - 9) - 3) - 3) - 1) ≥ 0) then
     (bif decide (IntKind.wrap IntKind.i64 (IntKind.wrap IntKind.i64 (IntKind.wrap IntKind.i64 (IntKind.wrap IntKind.i64 (IntKind.wrap IntKind.i64 (dr x 20 - 9) - 3) - 3) - 1) - 1) ≥ 0) then
      (bif decide (IntKind.wrap IntKind.i64 (IntKind.wrap IntKind.i64 (IntKind.wrap IntKind.i64 (IntKind.wrap IntKind.i64 (IntKind.wrap IntKind.i64 (IntKind.wrap IntKind.i64 (dr x 20 - 9) - 3) - 3) - 1) - 1) - 1) ≥ 0) then
       (bif decide (IntKind.wrap IntKind.i64 (IntKind.wrap IntKind.i64 (IntKind.wrap IntKind.i64 (IntKind.wrap IntKind.i64 (IntKind.wrap IntKind.i64 (IntKind.wrap IntKind.i64 (IntKind.wrap IntKind.i64 (dr x 20 - 9) - 3) - 3) - 1) - 1) - 1) - 1) ≥ 0) then
        (bif decide (IntKind.wrap IntKind.i64 (IntKind.wrap IntKind.i64 (IntKind.wrap IntKind.i64 (IntKind.wrap IntKind.i64 (IntKind.wrap IntKind.i64 (IntKind.wrap IntKind.i64 (IntKind.wrap IntKind.i64 (IntKind.wrap IntKind.i64 (dr x 20 - 9) - 3) - 3) - 1) - 1) - 1) - 1) - 1) ≥ 0) then
         (Q (.agg ⟨[(.int IntKind.i64 0), (.int IntKind.i64 0), (.int IntKind.i64 0), (.string ({ data := #[] })), (.string ({ data := #[] }))]⟩) [some (.cells [(.int IntKind.u32 (nx x)), (.int IntKind.i64 s), (.int IntKind.i64 z), (.int IntKind.i64 r), (.int IntKind.i64 w), (.int IntKind.i64 k), (.int IntKind.i64 v), (.int IntKind.i64 p)] 0 false)])
        else
         (Q (.agg ⟨[(.int IntKind.i64 5), (.int IntKind.i64 0), (.int IntKind.i64 0), (.string ({ data := #[] })), (.string ({ data := #[] }))]⟩) [some (.cells [(.int IntKind.u32 (nx x)), (.int IntKind.i64 s), (.int IntKind.i64 z), (.int IntKind.i64 r), (.int IntKind.i64 w), (.int IntKind.i64 k), (.int IntKind.i64 v), (.int IntKind.i64 p)] 0 false)]))
       else
        ((0 : Int) < 2) ∧
        (Q (.agg ⟨[(.int IntKind.i64 6), (.int IntKind.i64 (IntKind.wrap IntKind.i64 (1 + dr (nx x) 2))), (.int IntKind.i64 0), (.string ({ data := #[] })), (.string ({ data := #[] }))]⟩) [some (.cells [(.int IntKind.u32 (nx (nx x))), (.int IntKind.i64 s), (.int IntKind.i64 z), (.int IntKind.i64 r), (.int IntKind.i64 w), (.int IntKind.i64 k), (.int IntKind.i64 v), (.int IntKind.i64 p)] 0 false)]))
      else
       (Q (.agg ⟨[(.int IntKind.i64 5), (.int IntKind.i64 0), (.int IntKind.i64 0), (.string ({ data := #[] })), (.string ({ data := #[] }))]⟩) [some (.cells [(.int IntKind.u32 (nx x)), (.int IntKind.i64 s), (.int IntKind.i64 z), (.int IntKind.i64 r), (.int IntKind.i64 w), (.int IntKind.i64 k), (.int IntKind.i64 v), (.int IntKind.i64 p)] 0 false)]))
     else
      (Q (.agg ⟨[(.int IntKind.i64 5), (.int IntKind.i64 0), (.int IntKind.i64 0), (.string ({ data := #[] })), (.string ({ data := #[] }))]⟩) [some (.cells [(.int IntKind.u32 (nx x)), (.int IntKind.i64 s), (.int IntKind.i64 z), (.int IntKind.i64 r), (.int IntKind.i64 w), (.int IntKind.i64 k), (.int IntKind.i64 v), (.int IntKind.i64 p)] 0 false)]))
    else
     (Q (.agg ⟨[(.int IntKind.i64 4), (.int IntKind.i64 0), (.int IntKind.i64 0), (.string ({ data := #[] })), (.string ({ data := #[] }))]⟩) [some (.cells [(.int IntKind.u32 (nx x)), (.int IntKind.i64 s), (.int IntKind.i64 z), (.int IntKind.i64 r), (.int IntKind.i64 w), (.int IntKind.i64 k), (.int IntKind.i64 v), (.int IntKind.i64 p)] 0 false)]))
   else
    ((0 : Int) < 8) ∧
    (Q (.agg ⟨[(.int IntKind.i64 2), (.int IntKind.i64 0), (.int IntKind.i64 0), (.string ({ data := { toList := List.map (fun n => UInt8.ofNat (Int.toNat n)) [IntKind.wrap IntKind.u8 (97 + IntKind.wrap IntKind.u8 (dr (nx x) 8))] } })), (.string ({ data := #[] }))]⟩) [some (.cells [(.int IntKind.u32 (nx (nx x))), (.int IntKind.i64 s), (.int IntKind.i64 z), (.int IntKind.i64 r), (.int IntKind.i64 w), (.int IntKind.i64 k), (.int IntKind.i64 v), (.int IntKind.i64 p)] 0 false)]))
  else
   ((0 : Int) < 8) ∧
   (Q (.agg ⟨[(.int IntKind.i64 3), (.int IntKind.i64 0), (.int IntKind.i64 0), (.string ({ data := { toList := List.map (fun n => UInt8.ofNat (Int.toNat n)) [IntKind.wrap IntKind.u8 (97 + IntKind.wrap IntKind.u8 (dr (nx x) 8))] } })), (.string ({ data := #[] }))]⟩) [some (.cells [(.int IntKind.u32 (nx (nx x))), (.int IntKind.i64 s), (.int IntKind.i64 z), (.int IntKind.i64 r), (.int IntKind.i64 w), (.int IntKind.i64 k), (.int IntKind.i64 v), (.int IntKind.i64 p)] 0 false)]))
 else
  ((0 : Int) < 8) ∧
  (0 < IntKind.wrap IntKind.i64 (v + 1)) ∧
  ((0 : Int) < 26) ∧
  (0 ≤ dr (nx (nx x)) (IntKind.wrap IntKind.i64 (v + 1)) ∧ dr (nx (nx x)) (IntKind.wrap IntKind.i64 (v + 1)) ≤ 9223372036854775807 ∧ ByteArray.size { data := { toList := List.map (fun n => UInt8.ofNat (Int.toNat n)) [IntKind.wrap IntKind.u8 (65 + IntKind.wrap IntKind.u8 (dr (nx (nx (nx x))) 26))] } } * Int.toNat (dr (nx (nx x)) (IntKind.wrap IntKind.i64 (v + 1))) ≤ 140737488355328) ∧
  (Q (.agg ⟨[(.int IntKind.i64 1), (.int IntKind.i64 0), (.int IntKind.i64 0), (.string ({ data := { toList := List.map (fun n => UInt8.ofNat (Int.toNat n)) [IntKind.wrap IntKind.u8 (97 + IntKind.wrap IntKind.u8 (dr (nx x) 8))] } })), (.string ({ data := { toList := Lib.repeatL (Array.toList (ByteArray.data { data := { toList := List.map (fun n => UInt8.ofNat (Int.toNat n)) [IntKind.wrap IntKind.u8 (65 + IntKind.wrap IntKind.u8 (dr (nx (nx (nx x))) 26))] } })) (Int.toNat (dr (nx (nx x)) (IntKind.wrap IntKind.i64 (v + 1)))) } }))]⟩) [some (.cells [(.int IntKind.u32 (nx (nx (nx (nx x))))), (.int IntKind.i64 s), (.int IntKind.i64 z), (.int IntKind.i64 r), (.int IntKind.i64 w), (.int IntKind.i64 k), (.int IntKind.i64 v), (.int IntKind.i64 p)] 0 false)]))) := by kernel_rfl
end Go.Ideal

set_option maxRecDepth 1000000
namespace Go.Ideal
open Go.Proofs
section
variable {z v x : Int} {cr : Bool}
theorem opS_put (h : dr x 20 < 9) : opS z v cr x = ((1, 0, 0, ltr 97 (dr (nx x) 8), repS (ltr 65 (dr (nx (nx (nx x))) 26)) (dr (nx (nx x)) (v + 1))), nx (nx (nx (nx x)))) := by
  unfold opS; simp only [if_pos h]
theorem opS_del (h1 : ¬ dr x 20 < 9) (h : dr x 20 < 12) : opS z v cr x = ((3, 0, 0, ltr 97 (dr (nx x) 8), ByteArray.empty), nx (nx x)) := by
  unfold opS; simp only [if_neg h1, if_pos h]
theorem opS_get (h1 : ¬ dr x 20 < 12) (h : dr x 20 < 15) : opS z v cr x = ((2, 0, 0, ltr 97 (dr (nx x) 8), ByteArray.empty), nx (nx x)) := by
  have h0 : ¬ dr x 20 < 9 := by omega
  unfold opS; simp only [if_neg h0, if_neg h1, if_pos h]
theorem opS_sync (h : dr x 20 = 15) : opS z v cr x = ((4, 0, 0, ByteArray.empty, ByteArray.empty), nx x) := by
  unfold opS; simp only [h]; rfl
theorem opS_step (h : dr x 20 = 16) : opS z v cr x = ((5, 0, 0, ByteArray.empty, ByteArray.empty), nx x) := by
  unfold opS; simp only [h]; rfl
theorem opS_reop (h : dr x 20 = 17) : opS z v cr x = ((if cr then 8 else 5, 0, 0, ByteArray.empty, ByteArray.empty), nx x) := by
  unfold opS; simp only [h]; rfl
theorem opS_pol (h : dr x 20 = 18) : opS z v cr x = ((6, 1 + dr (nx x) 2, 0, ByteArray.empty, ByteArray.empty), nx (nx x)) := by
  unfold opS; simp only [h]; rfl
theorem opS_crT (h : dr x 20 = 19) : opS z v true x = crS z (nx x) := by
  unfold opS; simp only [h]; rfl
theorem opS_crF (h : dr x 20 = 19) : opS z v false x = ((5, 0, 0, ByteArray.empty, ByteArray.empty), nx x) := by
  unfold opS; simp only [h]; rfl
end
theorem wrapU8 {x : Int} (h0 : 0 ≤ x) (h1 : x < 256) : IntKind.wrap .u8 x = x := by
  show (if (false && decide (x % 256 ≥ 128)) = true then x % 256 - 256 else x % 256) = x
  simp only [Bool.false_and, Bool.false_eq_true, if_false]
  omega
def OpQ (s z r w k v p : Int) (cr : Bool) (x : Int) (v' : Value) (os : List (Option IObj)) : Prop :=
  v' = .agg ⟨EK.enc kOp (opS z v cr x).1⟩ ∧ os = [some (dice (opS z v cr x).2 s z r w k v p)]
theorem OpQ.of {s z r w k v p x : Int} {cr : Bool} {e : EK.C kOp × Int} (h : opS z v cr x = e) {v' : Value} {os : List (Option IObj)} (h1 : v' = .agg ⟨EK.enc kOp e.1⟩) (h2 : os = [some (dice e.2 s z r w k v p)]) : OpQ s z r w k v p cr x v' os := by
  unfold OpQ; rw [h]; exact ⟨h1, h2⟩
theorem crS_kind (z x : Int) : (crS z x).1.1 = 7 ∧ (crS z x).1.2.2.2.1 = ByteArray.empty := by
  unfold crS
  split
  · exact ⟨rfl, rfl⟩
  · split <;> exact ⟨rfl, rfl⟩
theorem crS_eta (z x : Int) : (crS z x).1 = (7, (crS z x).1.2.1, (crS z x).1.2.2.1, ByteArray.empty, (crS z x).1.2.2.2.2) := by
  obtain ⟨h1, h2⟩ := crS_kind z x
  rw [← h1, ← h2]
theorem pfO_ok : PfOk XO pfO := by
  intro f F hf args H K hF
  unfold pfO at hf
  cases h1 : Nat.beq f f_play_fillCrash
  rotate_left
  · rw [h1] at hf; cases hf
    have := Nat.eq_of_beq_eq_true h1; subst this
    exact footPf_ok (X := XO) rfl hF
  rw [h1] at hf
  have hf : pfB f = some F := hf
  unfold pfB at hf
  cases h1 : Nat.beq f f_play_dice_below
  rotate_left
  · rw [h1] at hf; cases hf
    have := Nat.eq_of_beq_eq_true h1; subst this
    exact footPf_ok (X := XO) rfl hF
  rw [h1] at hf
  cases h2 : Nat.beq f f_strconv_Itoa
  rotate_left
  · rw [h2] at hf; cases hf
    have := Nat.eq_of_beq_eq_true h2; subst this
    exact pItoa_ok (X := XO) rfl hF
  rw [h2] at hf
  cases h3 : Nat.beq f f_strings_Join
  rotate_left
  · rw [h3] at hf; cases hf
    have := Nat.eq_of_beq_eq_true h3; subst this
    exact pJoin_ok (X := XO) rfl hF
  rw [h3] at hf
  cases h4 : Nat.beq f f_strings_Repeat
  · rw [h4] at hf; cases hf
  rw [h4] at hf; cases hf
  have := Nat.eq_of_beq_eq_true h4; subst this
  exact pRepeat_ok (X := XO) rfl hF
theorem op_endsT (x s z r w k v p : Int) (hz : 0 ≤ z) (hz2 : z ≤ 10000) (hv : 0 ≤ v) (hv2 : v ≤ 1000) : VCp XO pfO f_play_dice_op [20] (OpQ s z r w k v p true x) 4000 (st f_play_dice_op 36 [pd, rs] ((hp0.alloc (dice x s z r w k v p)).alloc (recO true true))) := by
  obtain ⟨k0, k1⟩ := dr_in x 20 (by omega)
  obtain ⟨a0, a1⟩ := dr_in (nx x) 8 (by omega)
  obtain ⟨b0, b1⟩ := dr_in (nx (nx (nx x))) 26 (by omega)
  obtain ⟨c0, c1⟩ := dr_in (nx (nx x)) (v + 1) (by omega)
  obtain ⟨d0, d1⟩ := dr_in (nx x) 2 (by omega)
  have e8 : IntKind.wrap .u8 (97 + IntKind.wrap .u8 (dr (nx x) 8)) = 97 + dr (nx x) 8 := by rw [wrapU8 (x := dr (nx x) 8) (by omega) (by omega), wrapU8 (by omega) (by omega)]
  have e26 : IntKind.wrap .u8 (65 + IntKind.wrap .u8 (dr (nx (nx (nx x))) 26)) = 65 + dr (nx (nx (nx x))) 26 := by rw [wrapU8 (x := dr (nx (nx (nx x))) 26) (by omega) (by omega), wrapU8 (by omega) (by omega)]
  have ev : IntKind.wrap .i64 (v + 1) = v + 1 := wrap64 (by omega) (by omega)
  rw [vc_opt, wrap64 (x := dr x 20 - 9) (by omega) (by omega), wrap64 (x := dr x 20 - 9 - 3) (by omega) (by omega), wrap64 (x := dr x 20 - 9 - 3 - 3) (by omega) (by omega), wrap64 (x := dr x 20 - 9 - 3 - 3 - 1) (by omega) (by omega), wrap64 (x := dr x 20 - 9 - 3 - 3 - 1 - 1) (by omega) (by omega),
    wrap64 (x := dr x 20 - 9 - 3 - 3 - 1 - 1 - 1) (by omega) (by omega), wrap64 (x := dr x 20 - 9 - 3 - 3 - 1 - 1 - 1 - 1) (by omega) (by omega), wrap64 (x := dr x 20 - 9 - 3 - 3 - 1 - 1 - 1 - 1 - 1) (by omega) (by omega), wrap64 (x := 1 + dr (nx x) 2) (by omega) (by omega), e8, e26, ev]
  refine ⟨by omega, ?_⟩
  refine bif_decide (fun h1 => ?_) (fun h1 => ?_)
  rotate_left
  · refine ⟨by omega, by omega, by omega, ⟨c0, by omega, ?_⟩, OpQ.of (opS_put (by omega)) rfl rfl⟩
    show 1 * _ ≤ _
    omega
  refine bif_decide (fun h2 => ?_) (fun h2 => ?_)
  rotate_left
  · exact ⟨by omega, OpQ.of (opS_del (by omega) (by omega)) rfl rfl⟩
  refine bif_decide (fun h3 => ?_) (fun h3 => ?_)
  rotate_left
  · exact ⟨by omega, OpQ.of (opS_get (by omega) (by omega)) rfl rfl⟩
  refine bif_decide (fun h4 => ?_) (fun h4 => ?_)
  rotate_left
  · exact OpQ.of (opS_sync (by omega)) rfl rfl
  refine bif_decide (fun h5 => ?_) (fun h5 => ?_)
  rotate_left
  · exact OpQ.of (opS_step (by omega)) rfl rfl
  refine bif_decide (fun h6 => ?_) (fun h6 => ?_)
  rotate_left
  · exact OpQ.of (opS_reop (by omega)) rfl rfl
  refine bif_decide (fun h7 => ?_) (fun h7 => ?_)
  rotate_left
  · exact ⟨by omega, OpQ.of (opS_pol (by omega)) rfl rfl⟩
  refine bif_decide (fun h8 => ?_) (fun h8 => ?_)
  · exfalso; omega
  · exact ⟨⟨hz, hz2⟩, OpQ.of (opS_crT (by omega)) (by rw [crS_eta]; rfl) rfl⟩
theorem op_endsF (x s z r w k v p : Int) (_ : 0 ≤ z) (_ : z ≤ 10000) (hv : 0 ≤ v) (hv2 : v ≤ 1000) : VCp XO pfO f_play_dice_op [20] (OpQ s z r w k v p false x) 4000 (st f_play_dice_op 36 [pd, rs] ((hp0.alloc (dice x s z r w k v p)).alloc (recO false true))) := by
  obtain ⟨k0, k1⟩ := dr_in x 20 (by omega)
  obtain ⟨a0, a1⟩ := dr_in (nx x) 8 (by omega)
  obtain ⟨b0, b1⟩ := dr_in (nx (nx (nx x))) 26 (by omega)
  obtain ⟨c0, c1⟩ := dr_in (nx (nx x)) (v + 1) (by omega)
  obtain ⟨d0, d1⟩ := dr_in (nx x) 2 (by omega)
  have e8 : IntKind.wrap .u8 (97 + IntKind.wrap .u8 (dr (nx x) 8)) = 97 + dr (nx x) 8 := by rw [wrapU8 (x := dr (nx x) 8) (by omega) (by omega), wrapU8 (by omega) (by omega)]
  have e26 : IntKind.wrap .u8 (65 + IntKind.wrap .u8 (dr (nx (nx (nx x))) 26)) = 65 + dr (nx (nx (nx x))) 26 := by rw [wrapU8 (x := dr (nx (nx (nx x))) 26) (by omega) (by omega), wrapU8 (by omega) (by omega)]
  have ev : IntKind.wrap .i64 (v + 1) = v + 1 := wrap64 (by omega) (by omega)
  rw [vc_opf, wrap64 (x := dr x 20 - 9) (by omega) (by omega), wrap64 (x := dr x 20 - 9 - 3) (by omega) (by omega), wrap64 (x := dr x 20 - 9 - 3 - 3) (by omega) (by omega), wrap64 (x := dr x 20 - 9 - 3 - 3 - 1) (by omega) (by omega), wrap64 (x := dr x 20 - 9 - 3 - 3 - 1 - 1) (by omega) (by omega),
    wrap64 (x := dr x 20 - 9 - 3 - 3 - 1 - 1 - 1) (by omega) (by omega), wrap64 (x := dr x 20 - 9 - 3 - 3 - 1 - 1 - 1 - 1) (by omega) (by omega), wrap64 (x := dr x 20 - 9 - 3 - 3 - 1 - 1 - 1 - 1 - 1) (by omega) (by omega), wrap64 (x := 1 + dr (nx x) 2) (by omega) (by omega), e8, e26, ev]
  refine ⟨by omega, ?_⟩
  refine bif_decide (fun h1 => ?_) (fun h1 => ?_)
  rotate_left
  · refine ⟨by omega, by omega, by omega, ⟨c0, by omega, ?_⟩, OpQ.of (opS_put (by omega)) rfl rfl⟩
    show 1 * _ ≤ _
    omega
  refine bif_decide (fun h2 => ?_) (fun h2 => ?_)
  rotate_left
  · exact ⟨by omega, OpQ.of (opS_del (by omega) (by omega)) rfl rfl⟩
  refine bif_decide (fun h3 => ?_) (fun h3 => ?_)
  rotate_left
  · exact ⟨by omega, OpQ.of (opS_get (by omega) (by omega)) rfl rfl⟩
  refine bif_decide (fun h4 => ?_) (fun h4 => ?_)
  rotate_left
  · exact OpQ.of (opS_sync (by omega)) rfl rfl
  refine bif_decide (fun h5 => ?_) (fun h5 => ?_)
  rotate_left
  · exact OpQ.of (opS_step (by omega)) rfl rfl
  refine bif_decide (fun h6 => ?_) (fun h6 => ?_)
  rotate_left
  · exact OpQ.of (opS_reop (by omega)) rfl rfl
  refine bif_decide (fun h7 => ?_) (fun h7 => ?_)
  rotate_left
  · exact ⟨by omega, OpQ.of (opS_pol (by omega)) rfl rfl⟩
  refine bif_decide (fun h8 => ?_) (fun h8 => ?_)
  · exfalso; omega
  · exact OpQ.of (opS_crF (by omega)) rfl rfl
open Classical in
noncomputable def opG (cr : Bool) (args : List Value) (objs : List IObj) : GT := match args, objs with
  | [.pointer (some ⟨20, 0, none⟩), .slice (some ⟨21, 0, none⟩) 8 8], [.cells [.int .u32 x, .int .i64 s, .int .i64 z, .int .i64 r, .int .i64 w, .int .i64 k, .int .i64 v, .int .i64 p] 0 false, .cells l e _] =>
    .ask ((0 ≤ z ∧ z ≤ 10000 ∧ 0 ≤ v ∧ v ≤ 1000) ∧ l = recL cr ∧ e = 3) (.ret ⟨.agg ⟨EK.enc kOp (opS z v cr x).1⟩, [some (dice (opS z v cr x).2 s z r w k v p)], []⟩)
  | _, _ => .fail
theorem allO (hA : AllOk Tryz.prog tabLaid bFs) : AllOk Tryz.prog tabLaid oFs := AllOk.cons (iok_fc hA) hA
theorem iok_op (hA : AllOk Tryz.prog tabLaid bFs) (cr : Bool) : IOk Tryz.prog tabLaid f_play_dice_op (footF tabLaid 20 [true, false] (opG cr)) := by
  refine iok_foot (fs := oFs) (allO hA) (by kernel_rfl) (n := 36) (by kernel_rfl) (by kernel_rfl) fun argsc objs x hx hro => ?_
  unfold opG at hx
  split at hx
  · rename_i x0 s z r w k v p l e ro
    simp only [GT.run] at hx
    split at hx
    · rename_i hc
      obtain ⟨⟨hz, hz2, hv, hv2⟩, rfl, rfl⟩ := hc
      cases hx
      refine ⟨by simp, EndsN.mono (Q := fun v' Hf => OpQ s z r w k v p cr x0 v' ([20].map Hf.get)) ?_ fun v' Hf h => ?_⟩
      · refine (VCp_ok pfO_ok (ids := [20]) (Q := OpQ s z r w k v p cr x0) 4000 _ ?_).toN.mono fun v' Hf h => ?_
        · cases cr
          · exact op_endsF x0 s z r w k v p hz hz2 hv hv2
          · exact op_endsT x0 s z r w k v p hz hz2 hv hv2
        · have h1 := h.1
          rw [h1] at h ⊢
          exact h
      · obtain ⟨rfl, h2⟩ := h
        refine tm_olds (by rfl) fun j o hj hm ho => ?_
        have hj : j < 2 := by simpa using hj
        rcases (show j = 0 ∨ j = 1 by omega) with rfl | rfl
        · cases ho; exact ⟨_, rfl, (List.cons.inj h2).1⟩
        · cases hm
    · cases hx
  · cases hx
end Go.Ideal

set_option maxRecDepth 1000000
namespace Go.Ideal
open Go.Proofs
noncomputable abbrev gFs (cr : Bool) : List (FuncId × IFun) := [(f_config_Check, fCfg), (f_play_dice_op, footF tabLaid 20 [true, false] (opG cr))]
noncomputable def XG (cr : Bool) : Ctx := ctxI Tryz.prog tabLaid (gFs cr)
noncomputable def pfG (cr : Bool) : Pf := fun f => bif Nat.beq f f_play_dice_op then some (footPf tabLaid 20 [true, false] (opG cr)) else none
noncomputable def g7 (cr : Bool) (x s z r w k v p : Int) (out : Value) (n i : Int) (H : IHeap → IHeap) : Cfg :=
  ⟨⟨f_play_Random, mkT [(10, pd), (11, rs), (12, out), (31, .int .i64 n), (32, .int .i64 i)], 42, [.code (pcOf Tryz.prog f_play_Random [1, 1, 1, 1, 0, 1, 0, 0]), .inLoop (pcOf Tryz.prog f_play_Random [1, 1, 1, 1, 0, 1, 0, 0]), .inBlock 1, .code (pcOf Tryz.prog f_play_Random [1, 1, 1, 1, 1])], [], false, .normal, none⟩, [],
    H ((hp0.alloc (dice x s z r w k v p)).alloc (recO cr false))⟩
noncomputable def r7Nt (x s z r w k v p n : Int) : Cfg := g7 true x s z r w k v p (.slice none 0 0) n 0 id
noncomputable def r7Nf (x s z r w k v p n : Int) : Cfg := g7 false x s z r w k v p (.slice none 0 0) n 0 id
noncomputable def g7T (cr : Bool) (x s z r w k v p n i : Int) (out : Value) (l : List (EK.C kOp)) : Cfg := g7 cr x s z r w k v p out n i fun H => H.alloc (.vec kOp l false)
noncomputable def r7Tt (x s z r w k v p n i : Int) (out : Value) (l : List (EK.C kOp)) : Cfg := g7T true x s z r w k v p n i out l
noncomputable def r7Tf (x s z r w k v p n i : Int) (out : Value) (l : List (EK.C kOp)) : Cfg := g7T false x s z r w k v p n i out l
def r7S : Stop := ⟨f_play_Random, 0, 3, 20, [], [10, 11, 12, 31, 32]⟩
theorem vc_7at (s z r w k v p seed n : Int) (Q : Value → List (Option IObj) → Prop) (R : Cfg → Prop) : VCs (XG true) (pfG true) f_play_Random [] r7S Q R 3000 (st f_play_Random 42 [cfgV s z r w k v p, .int .u64 seed, .int .i64 n, .bool true] hp0) = (
 (bif cfgErr s z r w k v p != 0 then
  (Q (.tuple ⟨[(.slice none 0 0), (.int IntKind.i64 2)]⟩) [])
 else
  (bif decide (n < 0) then
   (Q (.tuple ⟨[(.slice none 0 0), (.int IntKind.i64 2)]⟩) [])
  else
   (bif decide (n > 2000) then
    (Q (.tuple ⟨[(.slice none 0 0), (.int IntKind.i64 10)]⟩) [])
   else
    (((.agg ⟨[(.int IntKind.u32 (IntKind.wrap IntKind.u32 seed)), (.int IntKind.i64 s), (.int IntKind.i64 z), (.int IntKind.i64 r), (.int IntKind.i64 w), (.int IntKind.i64 k), (.int IntKind.i64 v), (.int IntKind.i64 p)]⟩) : Value) = (.agg ⟨[(.int IntKind.u32 (IntKind.wrap IntKind.u32 seed)), (.int IntKind.i64 s), (.int IntKind.i64 z), (.int IntKind.i64 r), (.int IntKind.i64 w), (.int IntKind.i64 k), (.int IntKind.i64 v), (.int IntKind.i64 p)]⟩)) ∧
    (((.agg ⟨[(.int IntKind.i64 s), (.int IntKind.i64 z), (.int IntKind.i64 r), (.int IntKind.i64 w), (.int IntKind.i64 k), (.int IntKind.i64 v), (.int IntKind.i64 p)]⟩) : Value) = (.agg ⟨[(.int IntKind.i64 s), (.int IntKind.i64 z), (.int IntKind.i64 r), (.int IntKind.i64 w), (.int IntKind.i64 k), (.int IntKind.i64 v), (.int IntKind.i64 p)]⟩)) ∧
    (((.int IntKind.u32 (IntKind.wrap IntKind.u32 seed)) : Value) = (.int IntKind.u32 (IntKind.wrap IntKind.u32 seed))) ∧
    (((.int IntKind.u64 seed) : Value) = (.int IntKind.u64 seed)) ∧
    (R (r7Nt (IntKind.wrap IntKind.u32 seed) s z r w k v p n)))))) := by kernel_rfl
theorem vc_7af (s z r w k v p seed n : Int) (Q : Value → List (Option IObj) → Prop) (R : Cfg → Prop) : VCs (XG false) (pfG false) f_play_Random [] r7S Q R 3000 (st f_play_Random 42 [cfgV s z r w k v p, .int .u64 seed, .int .i64 n, .bool false] hp0) = (
 (bif cfgErr s z r w k v p != 0 then
  (Q (.tuple ⟨[(.slice none 0 0), (.int IntKind.i64 2)]⟩) [])
 else
  (bif decide (n < 0) then
   (Q (.tuple ⟨[(.slice none 0 0), (.int IntKind.i64 2)]⟩) [])
  else
   (bif decide (n > 2000) then
    (Q (.tuple ⟨[(.slice none 0 0), (.int IntKind.i64 10)]⟩) [])
   else
    (((.agg ⟨[(.int IntKind.u32 (IntKind.wrap IntKind.u32 seed)), (.int IntKind.i64 s), (.int IntKind.i64 z), (.int IntKind.i64 r), (.int IntKind.i64 w), (.int IntKind.i64 k), (.int IntKind.i64 v), (.int IntKind.i64 p)]⟩) : Value) = (.agg ⟨[(.int IntKind.u32 (IntKind.wrap IntKind.u32 seed)), (.int IntKind.i64 s), (.int IntKind.i64 z), (.int IntKind.i64 r), (.int IntKind.i64 w), (.int IntKind.i64 k), (.int IntKind.i64 v), (.int IntKind.i64 p)]⟩)) ∧
    (((.agg ⟨[(.int IntKind.i64 s), (.int IntKind.i64 z), (.int IntKind.i64 r), (.int IntKind.i64 w), (.int IntKind.i64 k), (.int IntKind.i64 v), (.int IntKind.i64 p)]⟩) : Value) = (.agg ⟨[(.int IntKind.i64 s), (.int IntKind.i64 z), (.int IntKind.i64 r), (.int IntKind.i64 w), (.int IntKind.i64 k), (.int IntKind.i64 v), (.int IntKind.i64 p)]⟩)) ∧
    (((.int IntKind.u32 (IntKind.wrap IntKind.u32 seed)) : Value) = (.int IntKind.u32 (IntKind.wrap IntKind.u32 seed))) ∧
    (((.int IntKind.u64 seed) : Value) = (.int IntKind.u64 seed)) ∧
    (R (r7Nf (IntKind.wrap IntKind.u32 seed) s z r w k v p n)))))) := by kernel_rfl
theorem vc_7bt (x s z r w k v p n : Int) (Q : Value → List (Option IObj) → Prop) (R : Cfg → Prop) : VCs (XG true) (pfG true) f_play_Random [] r7S Q R 3000 (r7Nt x s z r w k v p n) = (
 (bif decide (0 < n) then
  ((0 ≤ z ∧ z ≤ 10000 ∧ 0 ≤ v ∧ v ≤ 1000) ∧ [Value.int IntKind.i64 9, Value.int IntKind.i64 1, Value.func (Fn.func f_play_fillPut) { toList := [] } { toList := [] }, Value.int IntKind.i64 3, Value.int IntKind.i64 3, Value.func (Fn.func f_play_fillKey) { toList := [] } { toList := [] }, Value.int IntKind.i64 3, Value.int IntKind.i64 2, Value.func (Fn.func f_play_fillKey) { toList := [] } { toList := [] }, Value.int IntKind.i64 1, Value.int IntKind.i64 4, Value.nilFunc, Value.int IntKind.i64 1, Value.int IntKind.i64 5, Value.nilFunc, Value.int IntKind.i64 1, Value.int IntKind.i64 8, Value.nilFunc, Value.int IntKind.i64 1, Value.int IntKind.i64 6, Value.func (Fn.func f_play_fillPolicy) { toList := [] } { toList := [] }, Value.int IntKind.i64 1, Value.int IntKind.i64 7, Value.func (Fn.func f_play_fillCrash) { toList := [] } { toList := [] }] = recL true ∧ 3 = 3) ∧
  (R (r7Tt (Prod.snd (opS z v true x)) s z r w k v p n 1 (.slice (some ⟨22, 0, (some 0)⟩) 1 18446744073709551616) ([(Prod.fst (Prod.fst (opS z v true x)), Prod.fst (Prod.snd (Prod.fst (opS z v true x))), Prod.fst (Prod.snd (Prod.snd (Prod.fst (opS z v true x)))), Prod.fst (Prod.snd (Prod.snd (Prod.snd (Prod.fst (opS z v true x))))), Prod.snd (Prod.snd (Prod.snd (Prod.snd (Prod.fst (opS z v true x))))))])))
 else
  (Q (.tuple ⟨[(.slice none 0 0), (.int IntKind.i64 0)]⟩) []))) := by kernel_rfl
theorem vc_7bf (x s z r w k v p n : Int) (Q : Value → List (Option IObj) → Prop) (R : Cfg → Prop) : VCs (XG false) (pfG false) f_play_Random [] r7S Q R 3000 (r7Nf x s z r w k v p n) = (
 (bif decide (0 < n) then
  ((0 ≤ z ∧ z ≤ 10000 ∧ 0 ≤ v ∧ v ≤ 1000) ∧ [Value.int IntKind.i64 9, Value.int IntKind.i64 1, Value.func (Fn.func f_play_fillPut) { toList := [] } { toList := [] }, Value.int IntKind.i64 3, Value.int IntKind.i64 3, Value.func (Fn.func f_play_fillKey) { toList := [] } { toList := [] }, Value.int IntKind.i64 3, Value.int IntKind.i64 2, Value.func (Fn.func f_play_fillKey) { toList := [] } { toList := [] }, Value.int IntKind.i64 1, Value.int IntKind.i64 4, Value.nilFunc, Value.int IntKind.i64 1, Value.int IntKind.i64 5, Value.nilFunc, Value.int IntKind.i64 1, Value.int IntKind.i64 5, Value.nilFunc, Value.int IntKind.i64 1, Value.int IntKind.i64 6, Value.func (Fn.func f_play_fillPolicy) { toList := [] } { toList := [] }, Value.int IntKind.i64 1, Value.int IntKind.i64 5, Value.nilFunc] = recL false ∧ 3 = 3) ∧
  (R (r7Tf (Prod.snd (opS z v false x)) s z r w k v p n 1 (.slice (some ⟨22, 0, (some 0)⟩) 1 18446744073709551616) ([(Prod.fst (Prod.fst (opS z v false x)), Prod.fst (Prod.snd (Prod.fst (opS z v false x))), Prod.fst (Prod.snd (Prod.snd (Prod.fst (opS z v false x)))), Prod.fst (Prod.snd (Prod.snd (Prod.snd (Prod.fst (opS z v false x))))), Prod.snd (Prod.snd (Prod.snd (Prod.snd (Prod.fst (opS z v false x))))))])))
 else
  (Q (.tuple ⟨[(.slice none 0 0), (.int IntKind.i64 0)]⟩) []))) := by kernel_rfl
theorem vc_7ct (x s z r w k v p n i : Int) (l : List (EK.C kOp)) (Q : Value → List (Option IObj) → Prop) (R : Cfg → Prop) : VCs (XG true) (pfG true) f_play_Random [] r7S Q R 3000 (r7Tt x s z r w k v p n i (.slice (some ⟨22, 0, some 0⟩) l.length capU) l) = (
 (bif decide (i < n) then
  ((0 ≤ z ∧ z ≤ 10000 ∧ 0 ≤ v ∧ v ≤ 1000) ∧ [Value.int IntKind.i64 9, Value.int IntKind.i64 1, Value.func (Fn.func f_play_fillPut) { toList := [] } { toList := [] }, Value.int IntKind.i64 3, Value.int IntKind.i64 3, Value.func (Fn.func f_play_fillKey) { toList := [] } { toList := [] }, Value.int IntKind.i64 3, Value.int IntKind.i64 2, Value.func (Fn.func f_play_fillKey) { toList := [] } { toList := [] }, Value.int IntKind.i64 1, Value.int IntKind.i64 4, Value.nilFunc, Value.int IntKind.i64 1, Value.int IntKind.i64 5, Value.nilFunc, Value.int IntKind.i64 1, Value.int IntKind.i64 8, Value.nilFunc, Value.int IntKind.i64 1, Value.int IntKind.i64 6, Value.func (Fn.func f_play_fillPolicy) { toList := [] } { toList := [] }, Value.int IntKind.i64 1, Value.int IntKind.i64 7, Value.func (Fn.func f_play_fillCrash) { toList := [] } { toList := [] }] = recL true ∧ 3 = 3) ∧
  (bif true && Nat.ble (0 + List.length l) (List.length l) && bigOk 56 (List.length l + 1) then
   (R (r7Tt (Prod.snd (opS z v true x)) s z r w k v p n (IntKind.wrap IntKind.i64 (i + 1)) (.slice (some ⟨22, 0, (some 0)⟩) (List.length l + 1) 18446744073709551616) (List.take (List.length l) (List.drop 0 l) ++ [(Prod.fst (Prod.fst (opS z v true x)), Prod.fst (Prod.snd (Prod.fst (opS z v true x))), Prod.fst (Prod.snd (Prod.snd (Prod.fst (opS z v true x)))), Prod.fst (Prod.snd (Prod.snd (Prod.snd (Prod.fst (opS z v true x))))), Prod.snd (Prod.snd (Prod.snd (Prod.snd (Prod.fst (opS z v true x))))))])))
  else
   False)
 else
  (Q (.tuple ⟨[(.slice (some ⟨22, 0, (some 0)⟩) (List.length l) 18446744073709551616), (.int IntKind.i64 0)]⟩) [some (.vec kOp l false)]))) := by kernel_rfl
theorem vc_7cf (x s z r w k v p n i : Int) (l : List (EK.C kOp)) (Q : Value → List (Option IObj) → Prop) (R : Cfg → Prop) : VCs (XG false) (pfG false) f_play_Random [] r7S Q R 3000 (r7Tf x s z r w k v p n i (.slice (some ⟨22, 0, some 0⟩) l.length capU) l) = (
 (bif decide (i < n) then
  ((0 ≤ z ∧ z ≤ 10000 ∧ 0 ≤ v ∧ v ≤ 1000) ∧ [Value.int IntKind.i64 9, Value.int IntKind.i64 1, Value.func (Fn.func f_play_fillPut) { toList := [] } { toList := [] }, Value.int IntKind.i64 3, Value.int IntKind.i64 3, Value.func (Fn.func f_play_fillKey) { toList := [] } { toList := [] }, Value.int IntKind.i64 3, Value.int IntKind.i64 2, Value.func (Fn.func f_play_fillKey) { toList := [] } { toList := [] }, Value.int IntKind.i64 1, Value.int IntKind.i64 4, Value.nilFunc, Value.int IntKind.i64 1, Value.int IntKind.i64 5, Value.nilFunc, Value.int IntKind.i64 1, Value.int IntKind.i64 5, Value.nilFunc, Value.int IntKind.i64 1, Value.int IntKind.i64 6, Value.func (Fn.func f_play_fillPolicy) { toList := [] } { toList := [] }, Value.int IntKind.i64 1, Value.int IntKind.i64 5, Value.nilFunc] = recL false ∧ 3 = 3) ∧
  (bif true && Nat.ble (0 + List.length l) (List.length l) && bigOk 56 (List.length l + 1) then
   (R (r7Tf (Prod.snd (opS z v false x)) s z r w k v p n (IntKind.wrap IntKind.i64 (i + 1)) (.slice (some ⟨22, 0, (some 0)⟩) (List.length l + 1) 18446744073709551616) (List.take (List.length l) (List.drop 0 l) ++ [(Prod.fst (Prod.fst (opS z v false x)), Prod.fst (Prod.snd (Prod.fst (opS z v false x))), Prod.fst (Prod.snd (Prod.snd (Prod.fst (opS z v false x)))), Prod.fst (Prod.snd (Prod.snd (Prod.snd (Prod.fst (opS z v false x))))), Prod.snd (Prod.snd (Prod.snd (Prod.snd (Prod.fst (opS z v false x))))))])))
  else
   False)
 else
  (Q (.tuple ⟨[(.slice (some ⟨22, 0, (some 0)⟩) (List.length l) 18446744073709551616), (.int IntKind.i64 0)]⟩) [some (.vec kOp l false)]))) := by kernel_rfl
end Go.Ideal

set_option maxRecDepth 1000000
namespace Go.Ideal
open Go.Proofs
noncomputable def eqT (l m : List (EK.C kOp)) (n i : Int) : Cfg :=
  ⟨⟨f_slices_Equal_api_Op_api_Op, mkT [(0, .slice (some ⟨20, 0, some 0⟩) l.length capU), (1, .slice (some ⟨21, 0, some 0⟩) m.length capU), (12, .int .i64 n), (13, .int .i64 i)], 26, [.code (pcOf Tryz.prog f_slices_Equal_api_Op_api_Op [1, 1, 0, 1, 0, 0]), .inLoop (pcOf Tryz.prog f_slices_Equal_api_Op_api_Op [1, 1, 0, 1, 0, 0]), .inBlock 0, .code (pcOf Tryz.prog f_slices_Equal_api_Op_api_Op [1, 1, 1])], [], false, .normal, none⟩, [],
    putRows hp0 true [⟨kOp, l⟩, ⟨kOp, m⟩]⟩
def eqS : Stop := ⟨f_slices_Equal_api_Op_api_Op, 0, 3, 22, [20, 21], [0, 1, 12, 13]⟩
theorem vc_eq0 (l m : List (EK.C kOp)) (Q : Value → List (Option IObj) → Prop) (R : Cfg → Prop) : VCs X0 noPf f_slices_Equal_api_Op_api_Op [] eqS Q R 3000 (st f_slices_Equal_api_Op_api_Op 26 [.slice (some ⟨20, 0, some 0⟩) l.length capU, .slice (some ⟨21, 0, some 0⟩) m.length capU] (putRows hp0 true [⟨kOp, l⟩, ⟨kOp, m⟩])) = (
 (bif Int.ofNat (List.length l) != Int.ofNat (List.length m) then
  (Q (.bool false) [])
 else
  (R (eqT l m (Int.ofNat (List.length l)) 0)))) := by kernel_rfl
theorem vc_eq1 (l m : List (EK.C kOp)) (n i : Int) (Q : Value → List (Option IObj) → Prop) (R : Cfg → Prop) : VCs X0 noPf f_slices_Equal_api_Op_api_Op [] eqS Q R 3000 (eqT l m n i) = (
 (bif decide (i < n) then
  (bif decide (0 ≤ i) && Nat.blt (Int.toNat i) (List.length l) then
   (bif Nat.blt (0 + Int.toNat i) (List.length l) then
    (bif decide (0 ≤ i) && Nat.blt (Int.toNat i) (List.length m) then
     (bif Nat.blt (0 + Int.toNat i) (List.length m) then
      (bif !(Prod.fst (List.getD l (0 + Int.toNat i) (EK.dflt kOp)) == Prod.fst (List.getD m (0 + Int.toNat i) (EK.dflt kOp)) && (Prod.fst (Prod.snd (List.getD l (0 + Int.toNat i) (EK.dflt kOp))) == Prod.fst (Prod.snd (List.getD m (0 + Int.toNat i) (EK.dflt kOp))) && (Prod.fst (Prod.snd (Prod.snd (List.getD l (0 + Int.toNat i) (EK.dflt kOp)))) == Prod.fst (Prod.snd (Prod.snd (List.getD m (0 + Int.toNat i) (EK.dflt kOp)))) && (ByteArray.toList (Prod.fst (Prod.snd (Prod.snd (Prod.snd (List.getD l (0 + Int.toNat i) (EK.dflt kOp)))))) == ByteArray.toList (Prod.fst (Prod.snd (Prod.snd (Prod.snd (List.getD m (0 + Int.toNat i) (EK.dflt kOp)))))) && (ByteArray.toList (Prod.snd (Prod.snd (Prod.snd (Prod.snd (List.getD l (0 + Int.toNat i) (EK.dflt kOp)))))) == ByteArray.toList (Prod.snd (Prod.snd (Prod.snd (Prod.snd (List.getD m (0 + Int.toNat i) (EK.dflt kOp)))))) && true))))) then
       (Q (.bool false) [])
      else
       (R (eqT l m n (IntKind.wrap IntKind.i64 (i + 1)))))
     else
      False)
    else
     False)
   else
    False)
  else
   False)
 else
  (Q (.bool true) []))) := by kernel_rfl
theorem vc_eqn (Q : Value → List (Option IObj) → Prop) : VC X0 f_slices_Equal_api_Op_api_Op [] Q 3000 (st f_slices_Equal_api_Op_api_Op 26 [.slice none 0 0, .slice none 0 0] hp0) = (
 (Q (.bool true) [])) := by kernel_rfl
end Go.Ideal

set_option maxRecDepth 1000000
namespace Go.Ideal
open Go.Proofs
theorem IOk.or {P : Program} {laid : List (Nat × List Value)} {f : FuncId} {F F1 F2 : IFun} (h1 : IOk P laid f F1) (h2 : IOk P laid f F2) (h : ∀ args H r, F args H = some r → F1 args H = some r ∨ F2 args H = some r) : IOk P laid f F :=
  ⟨h1.1, fun base W0 μ H W args args' v H' a b c d hF => (h args H (v, H') hF).elim (fun e => h1.2 base W0 μ H W args args' v H' a b c d e) (fun e => h2.2 base W0 μ H W args args' v H' a b c d e)⟩
theorem foot_or {laid : List (Nat × List Value)} {N : Nat} {muts : List Bool} {G G1 G2 : List Value → List IObj → GT} (h : ∀ args objs x, (G args objs).run = some x → (G1 args objs).run = some x ∨ (G2 args objs).run = some x) (args : List Value) (H : IHeap) (r : Value × IHeap)
    (hF : footF laid N muts G args H = some r) : footF laid N muts G1 args H = some r ∨ footF laid N muts G2 args H = some r := by
  unfold footF at hF ⊢
  split at hF
  · rename_i argsc objs h1 h2
    cases hm : mutsOk muts H 0 (reach2 H N 200 (args.flatMap (refsN 4)) [])
    · simp only [hm, cond_false] at hF; cases hF
    · simp only [hm, cond_true] at hF ⊢
      split at hF
      · rename_i x hx
        rcases h argsc objs x hx with e | e
        · left; rw [e]; exact hF
        · right; rw [e]; exact hF
      · cases hF
  · cases hF
def seedIn (x : Int) : Prop := 0 ≤ x ∧ x < 18446744073709551616
def rnd1 (s z r w k v p n : Int) : Bool := (cfgErr s z r w k v p != 0) || decide (n < 0)
open Classical in
noncomputable def rndG (args : List Value) (objs : List IObj) : GT := match args, objs with
  | [.agg ⟨[.int .i64 s, .int .i64 z, .int .i64 r, .int .i64 w, .int .i64 k, .int .i64 v, .int .i64 p]⟩, .int .u64 seed, .int .i64 n, .bool cr], [] =>
    .ask (seedIn seed) (.test (rnd1 s z r w k v p n) (.ret ⟨.tuple ⟨[.slice none 0 0, .int .i64 2]⟩, [], []⟩)
      (.test (decide (n > 2000)) (.ret ⟨.tuple ⟨[.slice none 0 0, .int .i64 10]⟩, [], []⟩)
        (.test (decide (n ≤ 0)) (.ret ⟨.tuple ⟨[.slice none 0 0, .int .i64 0]⟩, [], []⟩)
          (.ret ⟨.tuple ⟨[.slice (some ⟨20, 0, some 0⟩) n.toNat capU, .int .i64 0]⟩, [], [.vec kOp (opsS z v cr (seed % 4294967296) n.toNat) false]⟩))))
  | _, _ => .fail
noncomputable def rndGc (c : Bool) (args : List Value) (objs : List IObj) : GT := match args, objs with
  | [a, b, n, .bool cr], [] => bif cr == c then rndG [a, b, n, .bool cr] [] else .fail
  | _, _ => .fail
theorem rnd_or (args : List Value) (objs : List IObj) (x : Leaf) (h : (rndG args objs).run = some x) : (rndGc true args objs).run = some x ∨ (rndGc false args objs).run = some x := by
  have h0 := h
  unfold rndG at h
  split at h
  · rename_i cr
    cases cr
    · exact .inr h0
    · exact .inl h0
  · cases h
theorem cfg_of {s z r w k v p n : Int} (h : rnd1 s z r w k v p n = false) : cfgErr s z r w k v p = 0 ∧ 0 ≤ n ∧ cfgOk s z r w k v p := by
  unfold rnd1 at h
  simp only [Bool.or_eq_false_iff, bne_eq_false_iff_eq, decide_eq_false_iff_not] at h
  refine ⟨h.1, by omega, ?_⟩
  have h1 := h.1
  unfold cfgErr at h1
  split at h1
  · assumption
  · omega
theorem tm_row {m b : Nat} {v v' : Value} {k : EK} {l : List (EK.C k)} {Hf : IHeap} (hk : k.all noTok = true) (hb : 20 + m ≤ b) (hv : renV (TMatch.runOf tabLaid 20 m [b]) v = some v') (h : Hf.get b = some (.vec k l false)) : TMatch tabLaid 20 m [] ⟨v, [], [.vec k l false]⟩ v' Hf := by
  refine ⟨[b], by simp, fun c hc => by simp at hc; omega, rfl, hv, fun j c o hj ho => ?_, fun j o _ _ ho => by cases ho⟩
  cases j with
  | zero =>
    cases hj; cases ho
    refine ⟨.vec k l false, ?_, h⟩
    simp only [renO, hk, cond_true]
  | succ j => cases hj
theorem big56 {n : Nat} (h : n ≤ 100000) : bigOk 56 n = true := by
  unfold bigOk
  simp only [Bool.and_eq_true]
  exact ⟨Nat.ble_eq_true_of_le (by omega), Nat.ble_eq_true_of_le (by omega)⟩
theorem pfG_ok (cr : Bool) : PfOk (XG cr) (pfG cr) := by
  intro f F hf args H K hF
  unfold pfG at hf
  cases h1 : Nat.beq f f_play_dice_op
  · rw [h1] at hf; cases hf
  rw [h1] at hf; cases hf
  have := Nat.eq_of_beq_eq_true h1; subst this
  exact footPf_ok (X := XG cr) rfl hF
section
variable {s z r w k v p : Int}
def OutQ (b : Nat) (z v : Int) (cr : Bool) (x : Int) (n : Int) (v' : Value) (Hf : IHeap) : Prop :=
  v' = .tuple ⟨[.slice (some ⟨b, 0, some 0⟩) n.toNat capU, .int .i64 0]⟩ ∧ Hf.get b = some (.vec kOp (opsS z v cr x n.toNat) false)
theorem opsS_succ (cr : Bool) (x : Int) (i : Nat) : opsS z v cr x (i + 1) = opsS z v cr x i ++ [((opS z v cr (stS z v cr x i)).1.1, (opS z v cr (stS z v cr x i)).1.2.1, (opS z v cr (stS z v cr x i)).1.2.2.1, (opS z v cr (stS z v cr x i)).1.2.2.2.1, (opS z v cr (stS z v cr x i)).1.2.2.2.2)] := rfl
theorem r7_loop (cr : Bool) (x n : Int) (hc : cfgOk s z r w k v p) (hn : n ≤ 2000) : ∀ (m i : Nat), n.toNat - i = m → 1 ≤ i → (i : Int) ≤ n →
    EndsN (XG cr) 20 f_play_Random (OutQ 22 z v cr x n) (g7T cr (stS z v cr x i) s z r w k v p n i (.slice (some ⟨22, 0, some 0⟩) (opsS z v cr x i).length capU) (opsS z v cr x i)) := by
  have hb : 0 ≤ z ∧ z ≤ 10000 ∧ 0 ≤ v ∧ v ≤ 1000 := by unfold cfgOk at hc; omega
  intro m
  induction m with
  | zero =>
    intro i hm h1 hi
    have e : n.toNat = i := by omega
    refine EndsN.mono (Q := fun v' Hf => v' = .tuple ⟨[.slice (some ⟨22, 0, some 0⟩) n.toNat capU, .int .i64 0]⟩ ∧ ([] ++ refsN 4 v').map Hf.get = [some (.vec kOp (opsS z v cr x n.toNat) false)]) ?_ fun v' Hf h => ?_
    · refine VCs_ok (pfG_ok cr) (ids := []) (S := r7S) rfl (Q := fun v' os => v' = .tuple ⟨[.slice (some ⟨22, 0, some 0⟩) n.toNat capU, .int .i64 0]⟩ ∧ os = [some (.vec kOp (opsS z v cr x n.toNat) false)]) (R := fun _ => False) (fun v H h => h) (fun c h => h.elim) 3000 _ ?_
      cases cr
      · show VCs (XG false) (pfG false) f_play_Random [] r7S _ _ 3000 (r7Tf _ s z r w k v p n i _ _)
        rw [vc_7cf]
        refine bif_decide (fun h => by exfalso; omega) (fun _ => ⟨?_, by rw [e]⟩)
        rw [e, opsS_length, capU_eq]
      · show VCs (XG true) (pfG true) f_play_Random [] r7S _ _ 3000 (r7Tt _ s z r w k v p n i _ _)
        rw [vc_7ct]
        refine bif_decide (fun h => by exfalso; omega) (fun _ => ⟨?_, by rw [e]⟩)
        rw [e, opsS_length, capU_eq]
    · obtain ⟨rfl, h2⟩ := h
      exact ⟨rfl, (List.cons.inj h2).1⟩
  | succ m ih =>
    intro i hm h1 hi
    have hl : (opsS z v cr x i).length = i := opsS_length _ _ _ _ _
    have hcond : (true && Nat.ble (0 + (opsS z v cr x i).length) (opsS z v cr x i).length && bigOk 56 ((opsS z v cr x i).length + 1)) = true := by
      rw [hl, big56 (by omega), Nat.zero_add]
      simp only [Bool.and_true, Bool.true_and]
      exact Nat.ble_eq_true_of_le (Nat.le_refl _)
    have hend : ∀ R : Cfg → Prop, R (g7T cr (stS z v cr x (i + 1)) s z r w k v p n (i + 1 : Nat) (.slice (some ⟨22, 0, some 0⟩) (opsS z v cr x (i + 1)).length capU) (opsS z v cr x (i + 1))) →
        R (g7T cr (opS z v cr (stS z v cr x i)).2 s z r w k v p n ((i : Int) + 1) (.slice (some ⟨22, 0, some 0⟩) ((opsS z v cr x i).length + 1) 18446744073709551616) (List.take (opsS z v cr x i).length (List.drop 0 (opsS z v cr x i)) ++ [((opS z v cr (stS z v cr x i)).1.1, (opS z v cr (stS z v cr x i)).1.2.1, (opS z v cr (stS z v cr x i)).1.2.2.1, (opS z v cr (stS z v cr x i)).1.2.2.2.1, (opS z v cr (stS z v cr x i)).1.2.2.2.2)])) := by
      intro R hR
      rw [List.drop_zero, List.take_length, ← opsS_succ, ← capU_eq]
      rw [opsS_length] at hR
      rw [hl]
      exact hR
    refine VCs_ok (pfG_ok cr) (ids := []) (S := r7S) rfl (Q := fun _ _ => False) (R := fun c => c = g7T cr (stS z v cr x (i + 1)) s z r w k v p n (i + 1 : Nat) (.slice (some ⟨22, 0, some 0⟩) (opsS z v cr x (i + 1)).length capU) (opsS z v cr x (i + 1))) (fun v H h => h.elim) (fun c h => by rw [h]; exact ih (i + 1) (by omega) (by omega) (by omega)) 3000 _ ?_
    cases cr
    · show VCs (XG false) (pfG false) f_play_Random [] r7S _ _ 3000 (r7Tf _ s z r w k v p n i _ _)
      rw [vc_7cf, wrap64 (x := (i : Int) + 1) (by omega) (by omega)]
      refine bif_decide (fun _ => ⟨⟨hb, rfl, rfl⟩, bif_true hcond (hend (fun c => c = _) rfl)⟩) (fun h => by exfalso; omega)
    · show VCs (XG true) (pfG true) f_play_Random [] r7S _ _ 3000 (r7Tt _ s z r w k v p n i _ _)
      rw [vc_7ct, wrap64 (x := (i : Int) + 1) (by omega) (by omega)]
      refine bif_decide (fun _ => ⟨⟨hb, rfl, rfl⟩, bif_true hcond (hend (fun c => c = _) rfl)⟩) (fun h => by exfalso; omega)
end
end Go.Ideal

set_option maxRecDepth 1000000
namespace Go.Ideal
open Go.Proofs
section
variable {s z r w k v p : Int}
def RndQ (b : Nat) (s z r w k v p seed n : Int) (cr : Bool) (v' : Value) (Hf : IHeap) : Prop :=
  (rnd1 s z r w k v p n = true ∧ v' = .tuple ⟨[.slice none 0 0, .int .i64 2]⟩) ∨
  (rnd1 s z r w k v p n = false ∧ n > 2000 ∧ v' = .tuple ⟨[.slice none 0 0, .int .i64 10]⟩) ∨
  (rnd1 s z r w k v p n = false ∧ n ≤ 0 ∧ v' = .tuple ⟨[.slice none 0 0, .int .i64 0]⟩) ∨
  (rnd1 s z r w k v p n = false ∧ 0 < n ∧ n ≤ 2000 ∧ OutQ b z v cr (seed % 4294967296) n v' Hf)
theorem rnd_t1 {n : Int} (h : (cfgErr s z r w k v p != 0) = true) : rnd1 s z r w k v p n = true := by unfold rnd1; rw [h]; rfl
theorem rnd_t2 {n : Int} (h : n < 0) : rnd1 s z r w k v p n = true := by unfold rnd1; rw [decide_eq_true h, Bool.or_true]
theorem rnd_f {n : Int} (h : (cfgErr s z r w k v p != 0) = false) (h2 : ¬ n < 0) : rnd1 s z r w k v p n = false := by unfold rnd1; rw [h, decide_eq_false h2]; rfl
theorem cfgOk_of {n : Int} (h : rnd1 s z r w k v p n = false) : cfgOk s z r w k v p := (cfg_of h).2.2
theorem r7_first (cr : Bool) (x n : Int) (hr : rnd1 s z r w k v p n = false) (hn : n ≤ 2000) :
    EndsN (XG cr) 20 f_play_Random (fun v' Hf => (n ≤ 0 ∧ v' = .tuple ⟨[.slice none 0 0, .int .i64 0]⟩) ∨ (0 < n ∧ OutQ 22 z v cr x n v' Hf)) (g7 cr x s z r w k v p (.slice none 0 0) n 0 id) := by
  have hc := cfgOk_of hr
  have hb : 0 ≤ z ∧ z ≤ 10000 ∧ 0 ≤ v ∧ v ≤ 1000 := by unfold cfgOk at hc; omega
  refine VCs_ok (pfG_ok cr) (ids := []) (S := r7S) rfl (Q := fun v' _ => n ≤ 0 ∧ v' = .tuple ⟨[.slice none 0 0, .int .i64 0]⟩) (R := fun c => 0 < n ∧ c = g7T cr (stS z v cr x 1) s z r w k v p n (1 : Nat) (.slice (some ⟨22, 0, some 0⟩) (opsS z v cr x 1).length capU) (opsS z v cr x 1)) (fun v H h => .inl h) (fun c h => ?_) 3000 _ ?_
  · rw [h.2]
    exact EndsN.mono (r7_loop cr x n hc hn (n.toNat - 1) 1 (by omega) (by omega) (by omega)) fun v' Hf q => .inr ⟨h.1, q⟩
  · cases cr
    · show VCs (XG false) (pfG false) f_play_Random [] r7S _ _ 3000 (r7Nf x s z r w k v p n)
      rw [vc_7bf, ← capU_eq]
      refine bif_decide (fun h => ⟨⟨hb, rfl, rfl⟩, h, rfl⟩) (fun h => ⟨by omega, rfl⟩)
    · show VCs (XG true) (pfG true) f_play_Random [] r7S _ _ 3000 (r7Nt x s z r w k v p n)
      rw [vc_7bt, ← capU_eq]
      refine bif_decide (fun h => ⟨⟨hb, rfl, rfl⟩, h, rfl⟩) (fun h => ⟨by omega, rfl⟩)
theorem r7_ends (cr : Bool) (seed n : Int) : EndsN (XG cr) 20 f_play_Random (RndQ 22 s z r w k v p seed n cr) (st f_play_Random 42 [cfgV s z r w k v p, .int .u64 seed, .int .i64 n, .bool cr] hp0) := by
  refine VCs_ok (pfG_ok cr) (ids := []) (S := r7S) rfl (Q := fun v' _ => (rnd1 s z r w k v p n = true ∧ v' = .tuple ⟨[.slice none 0 0, .int .i64 2]⟩) ∨ (rnd1 s z r w k v p n = false ∧ n > 2000 ∧ v' = .tuple ⟨[.slice none 0 0, .int .i64 10]⟩))
    (R := fun c => rnd1 s z r w k v p n = false ∧ n ≤ 2000 ∧ c = g7 cr (seed % 4294967296) s z r w k v p (.slice none 0 0) n 0 id) (fun v' H h => h.elim .inl fun q => .inr (.inl q)) (fun c h => ?_) 3000 _ ?_
  · obtain ⟨h1, h2, h3⟩ := h
    rw [h3]
    refine EndsN.mono (r7_first cr (seed % 4294967296) n h1 h2) fun v' Hf q => ?_
    rcases q with ⟨q1, q2⟩ | ⟨q1, q2⟩
    · exact .inr (.inr (.inl ⟨h1, q1, q2⟩))
    · exact .inr (.inr (.inr ⟨h1, q1, h2, q2⟩))
  · cases cr
    · rw [vc_7af, wrapU32]
      refine bif_both (fun h1 => .inl ⟨rnd_t1 h1, rfl⟩) (fun h1 => bif_decide (fun h2 => .inl ⟨rnd_t2 h2, rfl⟩) (fun h2 => bif_decide (fun h3 => .inr ⟨rnd_f h1 h2, h3, rfl⟩) (fun h3 => ⟨rfl, rfl, rfl, rfl, rnd_f h1 h2, by omega, rfl⟩)))
    · rw [vc_7at, wrapU32]
      refine bif_both (fun h1 => .inl ⟨rnd_t1 h1, rfl⟩) (fun h1 => bif_decide (fun h2 => .inl ⟨rnd_t2 h2, rfl⟩) (fun h2 => bif_decide (fun h3 => .inr ⟨rnd_f h1 h2, h3, rfl⟩) (fun h3 => ⟨rfl, rfl, rfl, rfl, rnd_f h1 h2, by omega, rfl⟩)))
end
end Go.Ideal

set_option maxRecDepth 1000000
namespace Go.Ideal
open Go.Proofs
section
variable {s z r w k v p : Int}
theorem rnd_match {b : Nat} {seed n : Int} {cr : Bool} {v' : Value} {Hf : IHeap} (hb : 20 ≤ b) {x : Leaf} (hx : (rndG [cfgV s z r w k v p, .int .u64 seed, .int .i64 n, .bool cr] []).run = some x) (h : RndQ b s z r w k v p seed n cr v' Hf) : TMatch tabLaid 20 0 [] x v' Hf := by
  have hx : (GT.ask (seedIn seed) (.test (rnd1 s z r w k v p n) (.ret ⟨.tuple ⟨[.slice none 0 0, .int .i64 2]⟩, [], []⟩)
      (.test (decide (n > 2000)) (.ret ⟨.tuple ⟨[.slice none 0 0, .int .i64 10]⟩, [], []⟩)
        (.test (decide (n ≤ 0)) (.ret ⟨.tuple ⟨[.slice none 0 0, .int .i64 0]⟩, [], []⟩)
          (.ret ⟨.tuple ⟨[.slice (some ⟨20, 0, some 0⟩) n.toNat capU, .int .i64 0]⟩, [], [.vec kOp (opsS z v cr (seed % 4294967296) n.toNat) false]⟩))))).run = some x := hx
  simp only [GT.run] at hx
  split at hx
  · rcases h with ⟨h1, rfl⟩ | ⟨h1, h2, rfl⟩ | ⟨h1, h2, rfl⟩ | ⟨h1, h2, h3, rfl, h5⟩
    · simp only [h1, cond_true] at hx
      cases hx
      exact tm_plain (by rfl)
    · simp only [h1, cond_false, decide_eq_true h2, cond_true] at hx
      cases hx
      exact tm_plain (by rfl)
    · have h3 : ¬ n > 2000 := by omega
      simp only [h1, cond_false, decide_eq_false h3, decide_eq_true h2, cond_true] at hx
      cases hx
      exact tm_plain (by rfl)
    · have h4 : ¬ n > 2000 := by omega
      have h6 : ¬ n ≤ 0 := by omega
      simp only [h1, cond_false, decide_eq_false h4, decide_eq_false h6] at hx
      cases hx
      exact tm_row (by rfl) hb (by rfl) h5
  · cases hx
theorem rnd_seed {seed n : Int} {cr : Bool} {x : Leaf} (hx : (rndG [cfgV s z r w k v p, .int .u64 seed, .int .i64 n, .bool cr] []).run = some x) : seedIn seed := by
  have hx : (GT.ask (seedIn seed) _).run = some x := hx
  simp only [GT.run] at hx
  split at hx
  · assumption
  · cases hx
end
end Go.Ideal

set_option maxRecDepth 1000000
namespace Go.Ideal
open Go.Proofs
theorem allG (hA : AllOk Tryz.prog tabLaid bFs) (cr : Bool) : AllOk Tryz.prog tabLaid (gFs cr) := AllOk.cons iok_conf (AllOk.cons (iok_op hA cr) (AllOk.nil _ _))
theorem iok_rnd7c (hA : AllOk Tryz.prog tabLaid bFs) (c : Bool) : IOk Tryz.prog tabLaid f_play_Random (footF tabLaid 20 [] (rndGc c)) := by
  refine iok_foot (fs := gFs c) (allG hA c) (by kernel_rfl) (n := 42) (by kernel_rfl) (by kernel_rfl) fun argsc objs x hx hro => ?_
  unfold rndGc at hx
  split at hx
  · rename_i a b nn cr
    cases hcr : (cr == c)
    · simp only [hcr, cond_false] at hx; cases hx
    · simp only [hcr, cond_true] at hx
      have hcr : cr = c := by simpa using hcr
      subst hcr
      have hx0 := hx
      unfold rndG at hx
      split at hx
      · rename_i s z r w k v p seed n cr' heq _
        cases heq
        exact ⟨by simp, EndsN.mono (r7_ends cr seed n) fun v' Hf h => rnd_match (by omega) hx0 h⟩
      · cases hx
  · cases hx
theorem iok_rnd7 (hA : AllOk Tryz.prog tabLaid bFs) : IOk Tryz.prog tabLaid f_play_Random (footF tabLaid 20 [] rndG) := IOk.or (iok_rnd7c hA true) (iok_rnd7c hA false) (foot_or rnd_or)
end Go.Ideal
