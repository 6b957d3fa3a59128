/-
  Part of the proof: the machine that runs a program by fixed orders, and that each of its runs is a run of the model; or a run of it in parts. No conditions.
-/
import Derived.Test.YtihjcloanpfkaaaGreatDoorC41b
import Derived.Test.YtihjcloanpfkaaaGreatDoorP41
import Derived.Test.YtihjcloanpfkaaaGreatDoorAbr
import Derived.Laws.Strings
set_option maxRecDepth 1000000
namespace Go.Ideal
open Go.Proofs
theorem capU_eq : capU = 18446744073709551616 := by kernel_rfl
theorem x0_bytes : TypeInfo.bytes (Tables.types (Program.toTables (Ctx.P X0)))[5] = 1 := by kernel_rfl
theorem big_byte {m : Nat} (h : m ≤ 2000000) : bigOk (TypeInfo.bytes (Tables.types (Program.toTables (Ctx.P X0)))[5]) m = true := by
  rw [x0_bytes]
  unfold bigOk
  rw [Bool.and_eq_true]
  exact ⟨Nat.ble_eq_true_of_le (by omega), Nat.ble_eq_true_of_le (by omega)⟩
theorem at_ok {i n : Nat} (h : i < n) : (decide ((0 : Int) ≤ (i : Int)) && Nat.blt (Int.toNat (i : Int)) n) = true := by
  rw [Int.toNat_natCast, show Nat.blt i n = true from Nat.ble_eq_true_of_le h]; simp
theorem at_ok0 {i n : Nat} (h : i < n) : Nat.blt (0 + Int.toNat (i : Int)) n = true := by
  rw [Int.toNat_natCast, Nat.zero_add]; exact Nat.ble_eq_true_of_le h
/-- What both texts of a value give. -/
noncomputable def hexV (s : ByteArray) : Value := .tuple ⟨[.string (bytesV (hexOf (strInts s))), .int .i64 0]⟩
theorem vtxt_long {s : ByteArray} (h : s.size > 512) : vtxt s = .tuple ⟨[.string ⟨#[]⟩, .int .i64 12]⟩ := by
  unfold vtxt vstr verr
  rw [if_pos h, if_pos h]
theorem vtxt_nil {s : ByteArray} (h : s.size = 0) : vtxt s = .tuple ⟨[.string ⟨#[45]⟩, .int .i64 0]⟩ := by
  unfold vtxt vstr verr
  rw [if_neg (by omega), if_pos h, if_neg (by omega)]
theorem vtxt_hex {s : ByteArray} (h : s.size ≤ 512) (h2 : s.size ≠ 0) : vtxt s = hexV s := by
  unfold vtxt vstr verr hexV
  rw [if_neg (by omega), if_neg h2, if_neg (by omega)]
theorem take_full {s : ByteArray} {i : Nat} (h : s.size ≤ i) : (strInts s).take i = strInts s := List.take_of_length_le (by rw [strInts_length]; exact h)
theorem out_len {s : ByteArray} {i : Nat} (h : i ≤ s.size) : (hexOf ((strInts s).take i)).length = 2 * i := by
  rw [hexOf_length, List.length_take, strInts_length, Nat.min_eq_left h]
theorem txt_loop (s : ByteArray) (hs : s.size ≤ 512) : ∀ (m i : Nat), s.size - i = m → i ≤ s.size →
    EndsN X0 20 30 (fun v _ => v = hexV s) (txtT s (hexOf ((strInts s).take i)) (strInts s) (.slice (some ⟨20, 0, some 0⟩) (2 * i) capU) (.slice (some ⟨21, 0, some 0⟩) s.size capU) s.size i) := by
  intro m
  induction m with
  | zero =>
    intro i hm hi
    refine VCs_ok (noPf_ok X0) (ids := []) (S := txtS) rfl (Q := fun v _ => v = hexV s) (R := fun _ => False) (fun v H h => h) (fun c h => h.elim) 2000 _ ?_
    rw [vc_txt1]
    refine bif_decide (fun h => ?_) (fun _ => ?_)
    · exfalso; have : (i : Int) < s.size := h; omega
    refine bif_true (by rw [out_len hi, Nat.zero_add]; exact Nat.ble_eq_true_of_le (Nat.le_refl _)) ?_
    show Value.tuple _ = hexV s
    unfold hexV
    rw [List.drop_zero, List.take_of_length_le (by rw [out_len hi]; exact Nat.le_refl _), take_full (by omega)]
  | succ m ih =>
    intro i hm hi
    have hlt : i < s.size := by omega
    refine VCs_ok (noPf_ok X0) (ids := []) (S := txtS) rfl (Q := fun v _ => v = hexV s)
      (R := fun c => c = txtT s (hexOf ((strInts s).take (i + 1))) (strInts s) (.slice (some ⟨20, 0, some 0⟩) (2 * (i + 1)) capU) (.slice (some ⟨21, 0, some 0⟩) s.size capU) s.size (i + 1 : Nat)) (fun v H h => h) (fun c h => by rw [h]; exact ih (i + 1) (by omega) (by omega)) 2000 _ ?_
    rw [vc_txt1]
    refine bif_decide (fun _ => ?_) (fun h => absurd (show (i : Int) < (s.size : Int) by omega) h)
    have hg : List.getD (strInts s) (0 + Int.toNat (i : Int)) (EK.dflt kU8) = strAt s i := by
      rw [Int.toNat_natCast, Nat.zero_add]; exact strInts_getD s i hlt
    rw [hg]
    have hin := strAt_in s i
    refine bif_true (at_ok hlt) (bif_true (at_ok0 (by rw [strInts_length]; exact hlt)) (bif_true (shift_ok hin) (bif_true (mask_ok hin) (bif_true ?_ ?_))))
    · rw [big_byte (by omega), out_len hi, Nat.zero_add, show Nat.ble (2 * i) (2 * i) = true from Nat.ble_eq_true_of_le (Nat.le_refl _)]; rfl
    · rw [hexOf_take s i hlt, List.drop_zero, List.take_of_length_le (by rw [out_len hi]; exact Nat.le_refl _), hx2_shift hin, wrap64 (by omega) (by omega), show 2 * (i + 1) = 2 * i + 2 by omega, show ((i + 1 : Nat) : Int) = (i : Int) + 1 by omega, capU_eq]
theorem rtx_loop (s : ByteArray) (hs : s.size ≤ 512) : ∀ (m i : Nat), s.size - i = m → i ≤ s.size →
    EndsN X0 20 35 (fun v _ => v = hexV s) (rtxT s (hexOf ((strInts s).take i)) (.slice (some ⟨20, 0, some 0⟩) (2 * i) capU) i) := by
  intro m
  induction m with
  | zero =>
    intro i hm hi
    refine VCs_ok (noPf_ok X0) (ids := []) (S := rtxS) rfl (Q := fun v _ => v = hexV s) (R := fun _ => False) (fun v H h => h) (fun c h => h.elim) 2000 _ ?_
    rw [vc_rtx2]
    refine bif_decide (fun h => ?_) (fun _ => ?_)
    · exfalso; have : (i : Int) < s.size := h; omega
    refine bif_true (by rw [out_len hi, Nat.zero_add]; exact Nat.ble_eq_true_of_le (Nat.le_refl _)) ?_
    show Value.tuple _ = hexV s
    unfold hexV
    rw [List.drop_zero, List.take_of_length_le (by rw [out_len hi]; exact Nat.le_refl _), take_full (by omega)]
  | succ m ih =>
    intro i hm hi
    have hlt : i < s.size := by omega
    refine VCs_ok (noPf_ok X0) (ids := []) (S := rtxS) rfl (Q := fun v _ => v = hexV s)
      (R := fun c => c = rtxT s (hexOf ((strInts s).take (i + 1))) (.slice (some ⟨20, 0, some 0⟩) (2 * (i + 1)) capU) (i + 1 : Nat)) (fun v H h => h) (fun c h => by rw [h]; exact ih (i + 1) (by omega) (by omega)) 2000 _ ?_
    rw [vc_rtx2]
    refine bif_decide (fun _ => ?_) (fun h => absurd (show (i : Int) < (s.size : Int) by omega) h)
    rw [Int.toNat_natCast]
    have hin := strAt_in s i
    have hat := at_ok hlt
    rw [Int.toNat_natCast] at hat
    refine bif_true hat (bif_true (quo_ok hin).1 (bif_true hat (bif_true (rem_ok hin) (bif_true ?_ ?_))))
    · rw [big_byte (by omega), out_len hi, Nat.zero_add, show Nat.ble (2 * i) (2 * i) = true from Nat.ble_eq_true_of_le (Nat.le_refl _)]; rfl
    · rw [hexOf_take s i hlt, List.drop_zero, List.take_of_length_le (by rw [out_len hi]; exact Nat.le_refl _), (quo_ok hin).2, wrap64 (by omega) (by omega), show 2 * (i + 1) = 2 * i + 2 by omega, show ((i + 1 : Nat) : Int) = (i : Int) + 1 by omega, capU_eq]
      rfl
theorem str_empty {s : ByteArray} : (ByteArray.toList s == ByteArray.toList { data := #[] }) = decide (s.size = 0) := by
  rw [ByteArray.toList_eq, ByteArray.toList_eq]
  rcases s with ⟨⟨l⟩⟩
  cases l <;> rfl
theorem txt_ends (s : ByteArray) : EndsN X0 20 30 (fun v _ => v = vtxt s) (st 30 15 [.string s] hp0) := by
  refine VCs_ok (noPf_ok X0) (ids := []) (S := txtS) rfl (Q := fun v _ => v = vtxt s)
    (R := fun c => s.size ≤ 512 ∧ s.size ≠ 0 ∧ c = txtT s [] (strInts s) (.slice (some ⟨20, 0, some 0⟩) 0 capU) (.slice (some ⟨21, 0, some 0⟩) s.size capU) s.size 0) (fun v H h => h) (fun c h => ?_) 2000 _ ?_
  · obtain ⟨h1, h2, rfl⟩ := h
    refine EndsN.mono (txt_loop s h1 s.size 0 (by omega) (by omega)) fun v H h => ?_
    rw [h, vtxt_hex h1 h2]
  rw [vc_txt0]
  refine bif_decide (fun h => ?_) (fun h => ?_)
  · exact (vtxt_long (by have : (s.size : Int) > 512 := h; omega)).symm
  have h1 : s.size ≤ 512 := by have : ¬ (s.size : Int) > 512 := h; omega
  rw [str_empty]
  refine bif_decide (fun h => (vtxt_nil h).symm) (fun h => ?_)
  rw [show Int.ofNat s.size = (s.size : Int) from rfl, wrap64 (by omega) (by omega)]
  refine bif_true (by simp; omega) ⟨h1, h, ?_⟩
  rw [capU_eq]
theorem rtx_ends (s : ByteArray) : EndsN X0 20 35 (fun v _ => v = vtxt s) (st 35 11 [.string s] hp0) := by
  refine VCs_ok (noPf_ok X0) (ids := []) (S := rtxS) rfl (Q := fun v _ => v = vtxt s)
    (R := fun c => s.size ≤ 512 ∧ s.size ≠ 0 ∧ c = rtxT0 s 0) (fun v H h => h) (fun c h => ?_) 2000 _ ?_
  · obtain ⟨h1, h2, rfl⟩ := h
    refine VCs_ok (noPf_ok X0) (ids := []) (S := rtxS) rfl (Q := fun v _ => v = vtxt s)
      (R := fun c => c = rtxT s (hexOf ((strInts s).take 1)) (.slice (some ⟨20, 0, some 0⟩) (2 * 1) capU) (1 : Nat)) (fun v H h => h) (fun c h => ?_) 2000 _ ?_
    · rw [h]
      refine EndsN.mono (rtx_loop s h1 (s.size - 1) 1 (by omega) (by omega)) fun v H h => ?_
      rw [h, vtxt_hex h1 h2]
    rw [vc_rtx1]
    refine bif_decide (fun _ => ?_) (fun h => absurd (show (0 : Int) < (s.size : Int) by omega) h)
    have hin := strAt_in s 0
    have hat : (decide ((0 : Int) ≤ 0) && Nat.blt (Int.toNat 0) s.size) = true := by
      have := at_ok (i := 0) (n := s.size) (by omega)
      simpa using this
    rw [show Int.toNat 0 = 0 from rfl] at hat ⊢
    refine bif_true hat (bif_true (quo_ok hin).1 (bif_true hat (bif_true (rem_ok hin) ?_)))
    rw [hexOf_take s 0 (by omega), (quo_ok hin).2, capU_eq]
    rfl
  rw [vc_rtx0]
  refine bif_decide (fun h => ?_) (fun h => ?_)
  · exact (vtxt_long (by have : (s.size : Int) > 512 := h; omega)).symm
  have h1 : s.size ≤ 512 := by have : ¬ (s.size : Int) > 512 := h; omega
  rw [str_empty]
  exact bif_decide (fun h => (vtxt_nil h).symm) (fun h => ⟨h1, h, rfl⟩)
theorem IOk.sub {P : Program} {laid : List (Nat × List Value)} {f : FuncId} {F G : IFun} (h : IOk P laid f G) (hs : ∀ args H r, F args H = some r → G args H = some r) : IOk P laid f F :=
  ⟨h.1, fun base W0 μ H W args args' v H' hW hH hl ha hF => h.2 base W0 μ H W args args' v H' hW hH hl ha (hs _ _ _ hF)⟩
/-- A plain value. -/
theorem tm_plain {laid : List (Nat × List Value)} {N m : Nat} {v : Value} {Hf : IHeap} {olds : List (Option IObj)} (hv : flatN 6 v = true) : TMatch laid N m [] ⟨v, olds, []⟩ v Hf :=
  ⟨[], List.nodup_nil, fun b hb => (by cases hb), rfl, ren_flat 6 v hv, fun j b o hj => (by cases hj), fun j o _ hm => (by cases hm)⟩
noncomputable def txtG (args : List Value) (objs : List IObj) : GT := match args, objs with
  | [.string s], [] => .ret ⟨vtxt s, [], []⟩
  | _, _ => .fail
/-- What the text of a value does: one string in, a string and an error out. -/
noncomputable def fTxt : IFun := fun args H => match args with
  | [.string s] => some (vtxt s, H)
  | _ => none
theorem txt_foot (args : List Value) (H : IHeap) (r : Value × IHeap) (h : fTxt args H = some r) : footF tabLaid 20 [] txtG args H = some r := by
  unfold fTxt at h
  split at h
  · rename_i s
    cases h
    rfl
  · cases h
theorem iok_txtG {f : FuncId} {n : Nat} (he : entry Tryz.prog f = some (n, pcOf Tryz.prog f [])) (hn : 1 ≤ n) (hE : ∀ s, EndsN X0 20 f (fun v _ => v = vtxt s) (st f n [.string s] hp0)) : IOk Tryz.prog tabLaid f fTxt :=
  IOk.sub (iok_foot (fs := []) (AllOk.nil _ _) (by kernel_rfl) (n := n) (N := 20) (muts := []) (G := txtG) he rfl fun argsc objs x hx _ => by
    unfold txtG at hx
    split at hx
    · rename_i s _
      simp only [GT.run] at hx
      cases hx
      refine ⟨by simpa using hn, EndsN.mono (hE s) fun v H h => ?_⟩
      subst h
      exact tm_plain (by rfl)
    · cases hx) txt_foot
theorem iok_txt : IOk Tryz.prog tabLaid 30 fTxt := iok_txtG (n := 15) (by kernel_rfl) (by omega) txt_ends
theorem iok_rtx : IOk Tryz.prog tabLaid 35 fTxt := iok_txtG (n := 11) (by kernel_rfl) (by omega) rtx_ends
end Go.Ideal
