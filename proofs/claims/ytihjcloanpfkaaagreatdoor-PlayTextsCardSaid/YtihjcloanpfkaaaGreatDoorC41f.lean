/-
  Part of the proof: the machine that runs a program by fixed orders, and that each of its runs is a run of the model; or a run of it in parts. No conditions.
-/
import Derived.Test.YtihjcloanpfkaaaGreatDoorC41e
set_option maxRecDepth 1000000
namespace Go.Ideal
open Go.Proofs
noncomputable abbrev XTV : Ctx := XT dgs vstr verr
noncomputable def pText (l : List (EK.C kES)) : Value := .tuple ⟨[.string (ptS l), .int .i64 (ptE l 10 2 9)]⟩
theorem pText_many {l : List (EK.C kES)} (h : l.length > 2000) : pText l = .tuple ⟨[.string { data := #[] }, .int .i64 10]⟩ := by
  unfold pText ptS ptE
  simp only [if_pos h]
theorem pText_arg {l : List (EK.C kES)} (h : l.length ≤ 2000) {i : Nat} (hi : i < l.length) (hp : ¬ posB l[i]) : pText l = .tuple ⟨[.string { data := #[] }, .int .i64 2]⟩ := by
  have hn : ¬ ∀ x ∈ l, posB x := fun ha => hp (ha _ (List.getElem_mem hi))
  unfold pText ptS ptE
  have h2 : ¬ l.length > 2000 := by omega
  simp only [if_neg h2, if_neg hn]
theorem pText_long {l : List (EK.C kES)} (h : l.length ≤ 2000) (hp : ∀ x ∈ l, posB x) (hc : (catB l).length > 65536) : pText l = .tuple ⟨[.string { data := #[] }, .int .i64 9]⟩ := by
  unfold pText ptS ptE
  have h2 : ¬ l.length > 2000 := by omega
  simp only [if_neg h2, if_pos hp, if_pos hc]
theorem pText_ok {l : List (EK.C kES)} (h : l.length ≤ 2000) (hp : ∀ x ∈ l, posB x) (hc : (catB l).length ≤ 65536) : pText l = .tuple ⟨[.string { data := { toList := catB l } }, .int .i64 0]⟩ := by
  unfold pText ptS ptE
  have h2 : ¬ l.length > 2000 := by omega
  have h3 : ¬ (catB l).length > 65536 := by omega
  simp only [if_neg h2, if_pos hp, if_neg h3]
theorem pfT_ok : PfOk XTV (pfT dgs) := by
  intro f F hf args H K hF
  unfold pfT at hf
  cases h1 : Nat.beq f 36
  rotate_left
  · rw [h1] at hf; cases hf
    have := Nat.eq_of_beq_eq_true h1; subst this
    unfold pDigU at hF
    split at hF
    · rename_i n
      obtain ⟨e, hk⟩ := hF
      refine ⟨_, _, ?_, hk⟩
      show fDigU dgs [.int .u64 n] H = _
      unfold fDigU
      exact if_pos e
    · cases hF
  rw [h1] at hf
  cases h2 : Nat.beq f 32
  rotate_left
  · rw [h2] at hf; cases hf
    have := Nat.eq_of_beq_eq_true h2; subst this
    unfold pDigI at hF
    split at hF
    · rename_i n
      obtain ⟨e, hk⟩ := hF
      refine ⟨_, _, ?_, hk⟩
      show fDigI dgs [.int .i64 n] H = _
      unfold fDigI
      exact if_pos e
    · cases hF
  rw [h2] at hf
  cases h3 : Nat.beq f 31
  · rw [h3] at hf; cases hf
  rw [h3] at hf; cases hf
  have := Nat.eq_of_beq_eq_true h3; subst this
  unfold pWrite at hF
  split at hF
  · rename_i b s
    split at hF
    · rename_i t' e' l hb
      cases h4 : (Nat.beq t' 75 && Nat.beq e' 5)
      · rw [h4] at hF; cases hF
      · rw [h4] at hF
        obtain ⟨e, hk⟩ := hF
        refine ⟨_, _, ?_, hk⟩
        show bldWriteI 75 5 [.pointer (some ⟨b, 0, none⟩), .string s] H = _
        unfold bldWriteI
        simp only [hb, h4, Bool.true_and, Nat.ble_eq_true_of_le e, cond_true]
    · cases hF
  · cases hF
theorem pre_one {l : List (EK.C kES)} {i : Nat} (hi : i < l.length) (h : ∀ x ∈ l.take i, posB x) (hx : posB l[i]) : ∀ x ∈ l.take (i + 1), posB x := by
  intro x hm
  rw [List.take_succ_eq_append_getElem hi] at hm
  rcases List.mem_append.1 hm with h1 | h1
  · exact h x h1
  · rw [List.mem_singleton.1 h1]; exact hx
theorem getD_at {l : List (EK.C kES)} {i : Nat} (hi : i < l.length) : List.getD l (0 + Int.toNat (i : Int)) (EK.dflt kES) = l[i] := by
  rw [Int.toNat_natCast, Nat.zero_add, List.getD_eq_getElem?_getD, List.getElem?_eq_getElem hi]; rfl
theorem sz1 : ByteArray.size { data := #[32] } = 1 := rfl
theorem sz2 : ByteArray.size { data := #[10] } = 1 := rfl
theorem pl_loop (l : List (EK.C kES)) (hl : l.length ≤ 2000) : ∀ (m i : Nat), l.length - i = m → i ≤ l.length → (∀ x ∈ l.take i, posB x) →
    EndsN XTV 21 10 (fun v _ => v = pText l) (plT l (catB (l.take i)) i) := by
  intro m
  induction m with
  | zero =>
    intro i hm hi hp
    have ht : l.take i = l := List.take_of_length_le (by omega)
    refine VCs_ok pfT_ok (ids := []) (S := plS) rfl (Q := fun v _ => v = pText l) (R := fun _ => False) (fun v H h => h) (fun c h => h.elim) 2000 _ ?_
    rw [vc_pl1]
    refine bif_decide (fun h => ?_) (fun _ => ?_)
    · exfalso; have : (i : Int) < l.length := h; omega
    rw [ht] at hp ⊢
    refine bif_decide (fun h => ?_) (fun h => ?_)
    · exact (pText_long hl hp (by have : ((catB l).length : Int) > 65536 := h; omega)).symm
    · exact (pText_ok hl hp (by have : ¬ ((catB l).length : Int) > 65536 := h; omega)).symm
  | succ m ih =>
    intro i hm hi hp
    have hlt : i < l.length := by omega
    refine VCs_ok pfT_ok (ids := []) (S := plS) rfl (Q := fun v _ => v = pText l) (R := fun c => posB l[i] ∧ c = plT l (catB (l.take (i + 1))) (i + 1 : Nat)) (fun v H h => h)
      (fun c h => by rw [h.2]; exact ih (i + 1) (by omega) (by omega) (pre_one hlt hp h.1)) 2000 _ ?_
    rw [vc_pl1]
    refine bif_decide (fun _ => ?_) (fun h => absurd (show (i : Int) < (l.length : Int) by omega) h)
    refine bif_true (at_ok hlt) (bif_true (at_ok0 hlt) ?_)
    rw [getD_at hlt]
    have hcl := catB_size (l.take i)
    have hlen : (l.take i).length ≤ 2000 := by rw [List.length_take]; omega
    have hd := dgs_size l[i].1
    have hv := vstr_size l[i].2
    have hb := lineB_size l[i]
    have fin : posB l[i] → posB l[i] ∧ plT l (catB (l.take i) ++ Array.toList (ByteArray.data (dgs l[i].1 ++ { data := #[32] } ++ vstr l[i].2 ++ { data := #[10] }))) (IntKind.wrap IntKind.i64 ((i : Int) + 1)) = plT l (catB (l.take (i + 1))) (i + 1 : Nat) := fun hx => by
      refine ⟨hx, ?_⟩
      rw [catB_take l i hlt, wrap64 (by omega) (by omega)]
      rfl
    have t1 : Nat.ble (ByteArray.size (dgs l[i].1) + ByteArray.size { data := #[32] }) 9223372036854775807 = true := Nat.ble_eq_true_of_le (by rw [sz1]; omega)
    have t2 : Nat.ble (ByteArray.size (dgs l[i].1 ++ { data := #[32] }) + ByteArray.size (vstr l[i].2)) 9223372036854775807 = true := Nat.ble_eq_true_of_le (by rw [ByteArray.size_append, sz1]; omega)
    have t3 : Nat.ble (ByteArray.size (dgs l[i].1 ++ { data := #[32] } ++ vstr l[i].2) + ByteArray.size { data := #[10] }) 9223372036854775807 = true := Nat.ble_eq_true_of_le (by rw [ByteArray.size_append, ByteArray.size_append, sz1, sz2]; omega)
    have t4 : (catB (l.take i)).length + ByteArray.size (dgs l[i].1 ++ { data := #[32] } ++ vstr l[i].2 ++ { data := #[10] }) ≤ 140737488355328 := by
      have : ByteArray.size (dgs l[i].1 ++ { data := #[32] } ++ vstr l[i].2 ++ { data := #[10] }) = (lineB l[i]).size := rfl
      omega
    refine bif_decide (fun e0 => ?_) (fun e0 => (pText_arg hl hlt (fun hx => e0 hx.1)).symm)
    refine bif_decide (fun e1 => ?_) (fun e1 => (pText_arg hl hlt (fun hx => e1 hx.2.1)).symm)
    refine bif_decide (fun e2 => ?_) (fun e2 => (pText_arg hl hlt (fun hx => e2 (by have := hx.2.2.1; show (ByteArray.size l[i].2 : Int) ≤ 512; omega))).symm)
    have e2 : ByteArray.size l[i].2 ≤ 512 := by have : (ByteArray.size l[i].2 : Int) ≤ 512 := e2; omega
    refine bif_both (fun e3 => ?_) (fun e3 => ?_)
    · have e3 : l[i].1 = 0 := by simpa using e3
      exact ⟨⟨e0, e1⟩, bif_true t1 (bif_true t2 (bif_true t3 ⟨t4, fin ⟨e0, e1, e2, .inl e3⟩⟩))⟩
    · have e3 : l[i].1 ≠ 0 := by simpa using e3
      rw [str_empty]
      refine bif_decide (fun e4 => ?_) (fun e4 => (pText_arg hl hlt (fun hx => hx.2.2.2.elim e3 e4)).symm)
      exact ⟨⟨e0, e1⟩, bif_true t1 (bif_true t2 (bif_true t3 ⟨t4, fin ⟨e0, e1, e2, .inr e4⟩⟩))⟩
theorem pl_ends (l : List (EK.C kES)) : EndsN XTV 21 10 (fun v _ => v = pText l) (st 10 39 [.slice (some ⟨20, 0, some 0⟩) l.length capU] (putRows hp0 true [⟨kES, l⟩])) := by
  refine VCs_ok pfT_ok (ids := []) (S := plS) rfl (Q := fun v _ => v = pText l) (R := fun c => l.length ≤ 2000 ∧ c = plT l [] 0) (fun v H h => h)
    (fun c h => by
      rw [h.2]
      have := pl_loop l h.1 l.length 0 (by omega) (by omega) (fun x hx => by simp at hx)
      exact this) 2000 _ ?_
  rw [vc_pl0]
  refine bif_decide (fun h => ?_) (fun h => ?_)
  · exact (pText_many (by have : (l.length : Int) > 2000 := h; omega)).symm
  · exact ⟨by have : ¬ (l.length : Int) > 2000 := h; omega, rfl⟩
end Go.Ideal
