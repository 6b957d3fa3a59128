/-
  Part of the proof: the machine that runs a program by fixed orders, and that each of its runs is a run of the model; or a run of it in parts. No conditions.
-/
import Derived.Test.YtihjcloanpfkaaaGreatDoorC41f
set_option maxRecDepth 1000000
namespace Go.Ideal
open Go.Proofs
theorem wrapU64 {x : Int} (h1 : 0 ≤ x) (h2 : x ≤ 9223372036854775807) : IntKind.wrap .u64 x = x := by
  show (if (false && decide (x % 18446744073709551616 ≥ 9223372036854775808)) = true then x % 18446744073709551616 - 18446744073709551616 else x % 18446744073709551616) = x
  simp only [Bool.false_and, Bool.false_eq_true, if_false]
  omega
theorem rf_long (l : List (EK.C kES)) (hl : l.length ≤ 2000) (out : ByteArray) (hlong : (catB l).length > 65536) : ∀ (m i : Nat), l.length - i = m → i ≤ l.length → (∀ x ∈ l.take i, posB x) →
    EndsN XTV 21 11 (fun v _ => v = pText l) (rfT l out true i) := by
  intro m
  induction m with
  | zero =>
    intro i hm hi hp
    have ht : l.take i = l := List.take_of_length_le (by omega)
    refine VCs_ok pfT_ok (ids := []) (S := rfS) rfl (Q := fun v _ => v = pText l) (R := fun _ => False) (fun v H h => h) (fun c h => h.elim) 2000 _ ?_
    rw [vc_rf2]
    refine bif_decide (fun h => ?_) (fun _ => ?_)
    · exfalso; have : (i : Int) < l.length := h; omega
    rw [ht] at hp
    exact (pText_long hl hp hlong).symm
  | succ m ih =>
    intro i hm hi hp
    have hlt : i < l.length := by omega
    refine VCs_ok pfT_ok (ids := []) (S := rfS) rfl (Q := fun v _ => v = pText l) (R := fun c => posB l[i] ∧ c = rfT l out true (i + 1 : Nat)) (fun v H h => h)
      (fun c h => by rw [h.2]; exact ih (i + 1) (by omega) (by omega) (pre_one hlt hp h.1)) 2000 _ ?_
    rw [vc_rf2]
    refine bif_decide (fun _ => ?_) (fun h => absurd (show (i : Int) < (l.length : Int) by omega) h)
    refine bif_true (at_ok hlt) (bif_true (at_ok0 hlt) ?_)
    rw [getD_at hlt, wrap64 (by omega) (by omega)]
    refine bif_decide (fun e0 => (pText_arg hl hlt (fun hx => absurd e0 (Int.not_lt.2 hx.1))).symm) (fun e0 => ?_)
    refine bif_decide (fun e1 => (pText_arg hl hlt (fun hx => absurd e1 (Int.not_lt.2 hx.2.1))).symm) (fun e1 => ?_)
    refine bif_decide (fun e2 => (pText_arg hl hlt (fun hx => by have := hx.2.2.1; have : (ByteArray.size l[i].2 : Int) > 512 := e2; omega)).symm) (fun e2 => ?_)
    have e2 : ByteArray.size l[i].2 ≤ 512 := by have : ¬ (ByteArray.size l[i].2 : Int) > 512 := e2; omega
    refine bif_both (fun e3 => ?_) (fun e3 => ?_)
    · have e3 : l[i].1 ≠ 0 := by simpa using e3
      rw [str_empty]
      refine bif_both (fun e4 => ?_) (fun e4 => ?_)
      · have e4 : ¬ ByteArray.size l[i].2 = 0 := by simpa using e4
        exact (pText_arg hl hlt (fun hx => hx.2.2.2.elim e3 e4)).symm
      · have e4 : ByteArray.size l[i].2 = 0 := by simpa using e4
        exact ⟨⟨Int.not_lt.1 e0, Int.not_lt.1 e1, e2, .inr e4⟩, rfl⟩
    · have e3 : l[i].1 = 0 := by simpa using e3
      exact ⟨⟨Int.not_lt.1 e0, Int.not_lt.1 e1, e2, .inl e3⟩, rfl⟩
theorem out_app (a : List UInt8) (x : EK.C kES) : ((⟨⟨a⟩⟩ : ByteArray) ++ dgs x.1 ++ { data := #[32] } ++ vstr x.2 ++ { data := #[10] }) = ⟨⟨a ++ (lineB x).data.toList⟩⟩ := by
  apply ByteArray.ext
  apply Array.ext'
  unfold lineB
  simp only [ba_append, List.append_assoc]
theorem rf_loop (l : List (EK.C kES)) (hl : l.length ≤ 2000) : ∀ (m i : Nat), l.length - i = m → i ≤ l.length → (∀ x ∈ l.take i, posB x) → (catB (l.take i)).length ≤ 65536 →
    EndsN XTV 21 11 (fun v _ => v = pText l) (rfT l ⟨⟨catB (l.take i)⟩⟩ false i) := by
  intro m
  induction m with
  | zero =>
    intro i hm hi hp hc
    have ht : l.take i = l := List.take_of_length_le (by omega)
    refine VCs_ok pfT_ok (ids := []) (S := rfS) rfl (Q := fun v _ => v = pText l) (R := fun _ => False) (fun v H h => h) (fun c h => h.elim) 2000 _ ?_
    rw [vc_rf1]
    refine bif_decide (fun h => ?_) (fun _ => ?_)
    · exfalso; have : (i : Int) < l.length := h; omega
    rw [ht] at hp hc ⊢
    exact (pText_ok hl hp hc).symm
  | succ m ih =>
    intro i hm hi hp hc
    have hlt : i < l.length := by omega
    refine VCs_ok pfT_ok (ids := []) (S := rfS) rfl (Q := fun v _ => v = pText l) (R := fun c => posB l[i] ∧ (((catB (l.take (i + 1))).length > 65536 ∧ c = rfT l ⟨⟨catB (l.take (i + 1))⟩⟩ true (i + 1 : Nat)) ∨ ((catB (l.take (i + 1))).length ≤ 65536 ∧ c = rfT l ⟨⟨catB (l.take (i + 1))⟩⟩ false (i + 1 : Nat)))) (fun v H h => h)
      (fun c h => by
        obtain ⟨h0, ⟨h1, h2⟩ | ⟨h1, h2⟩⟩ := h
        · rw [h2]
          have hlong : (catB l).length > 65536 := by have := catB_le l (i + 1); omega
          exact rf_long l hl _ hlong m (i + 1) (by omega) (by omega) (pre_one hlt hp h0)
        · rw [h2]
          exact ih (i + 1) (by omega) (by omega) (pre_one hlt hp h0) h1) 2000 _ ?_
    rw [vc_rf1]
    refine bif_decide (fun _ => ?_) (fun h => absurd (show (i : Int) < (l.length : Int) by omega) h)
    refine bif_true (at_ok hlt) (bif_true (at_ok0 hlt) ?_)
    rw [getD_at hlt, wrap64 (by omega) (by omega)]
    have hd := dgs_size l[i].1
    have hv := vstr_size l[i].2
    have hb := lineB_size l[i]
    have so : ByteArray.size (⟨⟨catB (l.take i)⟩⟩ : ByteArray) = (catB (l.take i)).length := rfl
    have fin : posB l[i] → (0 ≤ IntKind.wrap IntKind.u64 l[i].1 ∧ IntKind.wrap IntKind.u64 l[i].1 ≤ 16) ∧
        (bif Nat.ble (ByteArray.size (⟨⟨catB (l.take i)⟩⟩ : ByteArray) + ByteArray.size (dgs (IntKind.wrap IntKind.u64 l[i].1))) 9223372036854775807 then
          (bif Nat.ble (ByteArray.size ((⟨⟨catB (l.take i)⟩⟩ : ByteArray) ++ dgs (IntKind.wrap IntKind.u64 l[i].1)) + ByteArray.size { data := #[32] }) 9223372036854775807 then
           (bif Nat.ble (ByteArray.size ((⟨⟨catB (l.take i)⟩⟩ : ByteArray) ++ dgs (IntKind.wrap IntKind.u64 l[i].1) ++ { data := #[32] }) + ByteArray.size (vstr l[i].2)) 9223372036854775807 then
            (bif Nat.ble (ByteArray.size ((⟨⟨catB (l.take i)⟩⟩ : ByteArray) ++ dgs (IntKind.wrap IntKind.u64 l[i].1) ++ { data := #[32] } ++ vstr l[i].2) + ByteArray.size { data := #[10] }) 9223372036854775807 then
             (bif decide (Int.ofNat (ByteArray.size ((⟨⟨catB (l.take i)⟩⟩ : ByteArray) ++ dgs (IntKind.wrap IntKind.u64 l[i].1) ++ { data := #[32] } ++ vstr l[i].2 ++ { data := #[10] })) > 65536) then
              ((fun c => posB l[i] ∧ (((catB (l.take (i + 1))).length > 65536 ∧ c = rfT l ⟨⟨catB (l.take (i + 1))⟩⟩ true (i + 1 : Nat)) ∨ ((catB (l.take (i + 1))).length ≤ 65536 ∧ c = rfT l ⟨⟨catB (l.take (i + 1))⟩⟩ false (i + 1 : Nat)))) (rfT l ((⟨⟨catB (l.take i)⟩⟩ : ByteArray) ++ dgs (IntKind.wrap IntKind.u64 l[i].1) ++ { data := #[32] } ++ vstr l[i].2 ++ { data := #[10] }) true ((i : Int) + 1)))
             else
              ((fun c => posB l[i] ∧ (((catB (l.take (i + 1))).length > 65536 ∧ c = rfT l ⟨⟨catB (l.take (i + 1))⟩⟩ true (i + 1 : Nat)) ∨ ((catB (l.take (i + 1))).length ≤ 65536 ∧ c = rfT l ⟨⟨catB (l.take (i + 1))⟩⟩ false (i + 1 : Nat)))) (rfT l ((⟨⟨catB (l.take i)⟩⟩ : ByteArray) ++ dgs (IntKind.wrap IntKind.u64 l[i].1) ++ { data := #[32] } ++ vstr l[i].2 ++ { data := #[10] }) false ((i : Int) + 1))))
            else False) else False) else False) else False) := fun hx => by
      have hx0 := hx.1
      have hx1 := hx.2.1
      rw [wrapU64 hx0 (Int.le_trans hx1 (by omega)), out_app, ← catB_take l i hlt]
      have s3 : ByteArray.size ((⟨⟨catB (l.take i)⟩⟩ : ByteArray) ++ dgs l[i].1) ≤ 65538 := by rw [ByteArray.size_append]; omega
      have s4 : ByteArray.size ((⟨⟨catB (l.take i)⟩⟩ : ByteArray) ++ dgs l[i].1 ++ { data := #[32] }) ≤ 65539 := by rw [ByteArray.size_append, sz1]; omega
      have s5 : ByteArray.size ((⟨⟨catB (l.take i)⟩⟩ : ByteArray) ++ dgs l[i].1 ++ { data := #[32] } ++ vstr l[i].2) ≤ 66563 := by rw [ByteArray.size_append]; omega
      refine ⟨⟨hx0, hx1⟩, bif_true (Nat.ble_eq_true_of_le (by omega)) (bif_true (Nat.ble_eq_true_of_le (by rw [sz1]; omega)) (bif_true (Nat.ble_eq_true_of_le (by omega)) (bif_true (Nat.ble_eq_true_of_le (by rw [sz2]; omega)) ?_)))⟩
      have so2 : Int.ofNat (ByteArray.size (⟨⟨catB (l.take (i + 1))⟩⟩ : ByteArray)) = ((catB (l.take (i + 1))).length : Int) := rfl
      rw [so2]
      exact bif_decide (fun h => ⟨hx, .inl ⟨by omega, rfl⟩⟩) (fun h => ⟨hx, .inr ⟨by omega, rfl⟩⟩)
    refine bif_decide (fun e0 => (pText_arg hl hlt (fun hx => absurd e0 (Int.not_lt.2 hx.1))).symm) (fun e0 => ?_)
    refine bif_decide (fun e1 => (pText_arg hl hlt (fun hx => absurd e1 (Int.not_lt.2 hx.2.1))).symm) (fun e1 => ?_)
    refine bif_decide (fun e2 => (pText_arg hl hlt (fun hx => by have := hx.2.2.1; have : (ByteArray.size l[i].2 : Int) > 512 := e2; omega)).symm) (fun e2 => ?_)
    have e2 : ByteArray.size l[i].2 ≤ 512 := by have : ¬ (ByteArray.size l[i].2 : Int) > 512 := e2; omega
    refine bif_both (fun e3 => ?_) (fun e3 => ?_)
    · have e3 : l[i].1 ≠ 0 := by simpa using e3
      rw [str_empty]
      refine bif_both (fun e4 => ?_) (fun e4 => ?_)
      · have e4 : ¬ ByteArray.size l[i].2 = 0 := by simpa using e4
        exact (pText_arg hl hlt (fun hx => hx.2.2.2.elim e3 e4)).symm
      · have e4 : ByteArray.size l[i].2 = 0 := by simpa using e4
        exact fin ⟨Int.not_lt.1 e0, Int.not_lt.1 e1, e2, .inr e4⟩
    · have e3 : l[i].1 = 0 := by simpa using e3
      exact fin ⟨Int.not_lt.1 e0, Int.not_lt.1 e1, e2, .inl e3⟩
theorem rf_ends (l : List (EK.C kES)) : EndsN XTV 21 11 (fun v _ => v = pText l) (st 11 73 [.slice (some ⟨20, 0, some 0⟩) l.length capU] (putRows hp0 true [⟨kES, l⟩])) := by
  refine VCs_ok pfT_ok (ids := []) (S := rfS) rfl (Q := fun v _ => v = pText l) (R := fun c => l.length ≤ 2000 ∧ c = rfT l { data := #[] } false 0) (fun v H h => h)
    (fun c h => by
      rw [h.2]
      have := rf_loop l h.1 l.length 0 (by omega) (by omega) (fun x hx => by simp at hx) (by simp [catB])
      exact this) 2000 _ ?_
  rw [vc_rf0]
  refine bif_decide (fun h => ?_) (fun h => ?_)
  · exact (pText_many (by have : (l.length : Int) > 2000 := h; omega)).symm
  · exact ⟨by have : ¬ (l.length : Int) > 2000 := h; omega, rfl⟩
end Go.Ideal
