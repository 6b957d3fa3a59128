/-
  Part of the proof: the machine that runs a program by fixed orders, and that each of its runs is a run of the model; or a run of it in parts. No conditions.
-/
import Derived.Test.YtfgamdmnljnonaaGreatDoorC41s2
set_option maxRecDepth 1000000
namespace Go.Ideal
open Go.Proofs
def keepV (b : Nat) (ks : List Int) : Value := .slice (some ⟨b, 0, none⟩) ks.length (18446744073709551616 + ks.length)
noncomputable def keepO (ks : List Int) : IObj := .cells (ks.map fun k => .int .i64 k) 1 false
def RdQ (a : Int) (d : Bool) (ks : List Int) (v : Value) (H : IHeap) : Prop := ∃ b, 20 ≤ b ∧ v = .agg ⟨[.int .i64 a, .bool d, keepV b ks]⟩ ∧ H.get b = some (keepO ks)
theorem rdQ_of {a : Int} {d : Bool} {ks : List Int} {v : Value} {H : IHeap} {b : Nat} (hb : 20 ≤ b) (h : v = .agg ⟨[.int .i64 a, .bool d, keepV b ks]⟩ ∧ ([] ++ refsN 4 v).map H.get = [some (keepO ks)]) : RdQ a d ks v H := by
  obtain ⟨rfl, h2⟩ := h
  exact ⟨b, hb, rfl, (List.cons.inj h2).1⟩
theorem w0 {n : Nat} (h : n ≤ 100000) : IntKind.wrap .i64 (Int.ofNat n + 0) = (n : Int) := by
  rw [wrap64 (by simp only [Int.ofNat_eq_natCast]; omega) (by simp only [Int.ofNat_eq_natCast]; omega)]
  simp
theorem w1 {n : Nat} (h : n ≤ 100000) : IntKind.wrap .i64 (Int.ofNat n + 1) = ((n + 1 : Nat) : Int) := by
  rw [wrap64 (by simp only [Int.ofNat_eq_natCast]; omega) (by simp only [Int.ofNat_eq_natCast]; omega)]
  simp
theorem c0 {n m : Nat} (h : n ≤ m) : (decide ((0 : Int) ≤ (n : Int)) && Nat.ble (Int.toNat (n : Int)) m && decide ((0 : Int) ≤ 0) && Nat.ble 0 (Int.toNat (n : Int))) = true := by
  simp only [Int.toNat_natCast, Nat.ble_eq_true_of_le h, Nat.ble_eq_true_of_le (Nat.zero_le n), Bool.and_true, decide_eq_true_eq, Int.le_refl, decide_true]
  omega
theorem c1 {n m : Nat} (h : n ≤ m) : (decide ((0 : Int) ≤ Int.ofNat m) && Nat.ble (Int.toNat (Int.ofNat m)) m && decide ((0 : Int) ≤ (n : Int)) && Nat.ble (Int.toNat (n : Int)) (Int.toNat (Int.ofNat m))) = true := by
  simp only [Int.toNat_natCast, Int.ofNat_eq_natCast, Nat.ble_eq_true_of_le h, Nat.ble_eq_true_of_le (Nat.le_refl m), Bool.and_true, Bool.and_eq_true, decide_eq_true_eq]
  omega
def inK (k : Int) : Prop := 0 ≤ k ∧ k ≤ 8192
theorem numIn_dec {k : Int} (h : inK k) : numIn (decB k) 8192 := ⟨k, h.1, h.2, by omega, rfl⟩
theorem numOf_in {k : Int} (h : inK k) : numOf (decB k) = k := (numOf_dec h.1 (by unfold inK at h; omega)).1
theorem dec5 {k : Int} (h : inK k) : (decB k).size ≤ 8 := decB_len (by unfold inK at h; omega)
section
variable {a : Int} {d : Bool} (ha : 0 ≤ a ∧ a ≤ 1000000)
include ha
theorem rd2_ends {k0 k1 k : Int} (h0 : inK k0) (h1 : inK k1) (hk : inK k) : EndsN XRd 20 f_fault_read (RdQ a d [k0, k1, k]) (rd2 (bs (joinC [k])) a d k0 k1) := by
  refine VCt_ok pfRd_ok (ids := []) (S := rdS) (ks := rdK) rfl (Q := fun v os => v = .agg ⟨[.int .i64 a, .bool d, keepV 29 [k0, k1, k]]⟩ ∧ os = [some (keepO [k0, k1, k])]) (R := fun _ => False) (fun v H h => rdQ_of (by omega) h) (fun c h => h.elim) 1000 _ ?_
  rw [vc_rd2]
  refine bif_false (hasB_join1 k) ⟨numIn_dec hk, rfl, rfl, ?_⟩
  have e : numOf (bs (joinC [k])) = k := numOf_in hk
  rw [e]
  exact bif_decide (fun _ => bif_decide (fun _ => bif_decide (fun _ => bif_decide (fun _ => bif_decide (fun _ => bif_decide (fun _ => bif_decide (fun _ => bif_decide (fun _ => ⟨rfl, rfl⟩) fun h => absurd hk.2 h) fun h => absurd hk.1 h) fun h => absurd h1.2 h) fun h => absurd h1.1 h) fun h => absurd h0.2 h) fun h => absurd h0.1 h) fun h => absurd ha.2 h) fun h => absurd ha.1 h
theorem rd1_ends1 {k0 k : Int} (h0 : inK k0) (hk : inK k) : EndsN XRd 20 f_fault_read (RdQ a d [k0, k]) (rd1 (bs (joinC [k])) a d k0) := by
  refine VCt_ok pfRd_ok (ids := []) (S := rdS) (ks := rdK) rfl (Q := fun v os => v = .agg ⟨[.int .i64 a, .bool d, keepV 29 [k0, k]]⟩ ∧ os = [some (keepO [k0, k])]) (R := fun _ => False) (fun v H h => rdQ_of (by omega) h) (fun c h => h.elim) 1000 _ ?_
  rw [vc_rd1]
  refine bif_false (hasB_join1 k) ⟨numIn_dec hk, rfl, rfl, ?_⟩
  have e : numOf (bs (joinC [k])) = k := numOf_in hk
  rw [e]
  exact bif_decide (fun _ => bif_decide (fun _ => bif_decide (fun _ => bif_decide (fun _ => bif_decide (fun _ => bif_decide (fun _ => ⟨rfl, rfl⟩) fun h => absurd hk.2 h) fun h => absurd hk.1 h) fun h => absurd h0.2 h) fun h => absurd h0.1 h) fun h => absurd ha.2 h) fun h => absurd ha.1 h
theorem rd0_ends1 {k : Int} (hk : inK k) : EndsN XRd 20 f_fault_read (RdQ a d [k]) (rd0 (bs (joinC [k])) a d) := by
  refine VCt_ok pfRd_ok (ids := []) (S := rdS) (ks := rdK) rfl (Q := fun v os => v = .agg ⟨[.int .i64 a, .bool d, keepV 28 [k]]⟩ ∧ os = [some (keepO [k])]) (R := fun _ => False) (fun v H h => rdQ_of (by omega) h) (fun c h => h.elim) 1000 _ ?_
  rw [vc_rd0]
  refine bif_false (hasB_join1 k) ⟨numIn_dec hk, rfl, rfl, ?_⟩
  have e : numOf (bs (joinC [k])) = k := numOf_in hk
  rw [e]
  exact bif_decide (fun _ => bif_decide (fun _ => bif_decide (fun _ => bif_decide (fun _ => ⟨rfl, rfl⟩) fun h => absurd hk.2 h) fun h => absurd hk.1 h) fun h => absurd ha.2 h) fun h => absurd ha.1 h
omit ha in
theorem hit {k l : Int} {r : List Int} (hk : inK k) {C : ByteArray → Int → Prop} (h : C (bs (joinC (l :: r))) k) (A B : Prop) {D : Prop} (hA : A) (hB : B) :
    (bif hasB (bs (joinC (k :: l :: r))) 44 then
      (bif decide ((0 : Int) ≤ IntKind.wrap IntKind.i64 (Int.ofNat (posB1 (bs (joinC (k :: l :: r))) 44) + 0)) && Nat.ble (Int.toNat (IntKind.wrap IntKind.i64 (Int.ofNat (posB1 (bs (joinC (k :: l :: r))) 44) + 0))) (ByteArray.size (bs (joinC (k :: l :: r)))) && decide ((0 : Int) ≤ 0) && Nat.ble 0 (Int.toNat (IntKind.wrap IntKind.i64 (Int.ofNat (posB1 (bs (joinC (k :: l :: r))) 44) + 0))) then
        (numIn (ByteArray.extract (bs (joinC (k :: l :: r))) 0 (Int.toNat (IntKind.wrap IntKind.i64 (Int.ofNat (posB1 (bs (joinC (k :: l :: r))) 44) + 0)))) 8192) ∧ A ∧ B ∧
        (bif decide ((0 : Int) ≤ Int.ofNat (ByteArray.size (bs (joinC (k :: l :: r))))) && Nat.ble (Int.toNat (Int.ofNat (ByteArray.size (bs (joinC (k :: l :: r)))))) (ByteArray.size (bs (joinC (k :: l :: r)))) && decide ((0 : Int) ≤ IntKind.wrap IntKind.i64 (Int.ofNat (posB1 (bs (joinC (k :: l :: r))) 44) + 1)) && Nat.ble (Int.toNat (IntKind.wrap IntKind.i64 (Int.ofNat (posB1 (bs (joinC (k :: l :: r))) 44) + 1))) (Int.toNat (Int.ofNat (ByteArray.size (bs (joinC (k :: l :: r)))))) then
          C (ByteArray.extract (bs (joinC (k :: l :: r))) (Int.toNat (IntKind.wrap IntKind.i64 (Int.ofNat (posB1 (bs (joinC (k :: l :: r))) 44) + 1))) (Int.toNat (Int.ofNat (ByteArray.size (bs (joinC (k :: l :: r))))))) (numOf (ByteArray.extract (bs (joinC (k :: l :: r))) 0 (Int.toNat (IntKind.wrap IntKind.i64 (Int.ofNat (posB1 (bs (joinC (k :: l :: r))) 44) + 0)))))
        else False) else False) else D) := by
  obtain ⟨e1, e2⟩ := hasB_join2 k l r
  have h5 := dec5 hk
  have hs := join_size k l r
  refine bif_true e1 ?_
  rw [e2, w0 (by omega), w1 (by omega)]
  refine bif_true (c0 (by omega)) ?_
  rw [Int.toNat_natCast, join_first]
  refine ⟨numIn_dec hk, hA, hB, bif_true (c1 (by omega)) ?_⟩
  rw [Int.toNat_natCast, numOf_in hk, show Int.toNat (Int.ofNat (ByteArray.size (bs (joinC (k :: l :: r))))) = ByteArray.size (bs (joinC (k :: l :: r))) from rfl, join_rest]
  exact h
theorem rd1_ends2 {k0 k l : Int} (h0 : inK k0) (hk : inK k) (hl : inK l) : EndsN XRd 20 f_fault_read (RdQ a d [k0, k, l]) (rd1 (bs (joinC [k, l])) a d k0) := by
  refine VCt_ok pfRd_ok (ids := []) (S := rdS) (ks := rdK) rfl (Q := fun _ _ => False) (R := fun c => c = rd2 (bs (joinC [l])) a d k0 k) (fun v H h => h.elim) (fun c h => by rw [h]; exact rd2_ends ha h0 hk hl) 1000 _ ?_
  rw [vc_rd1]
  exact hit hk (C := fun s x => rd2 s a d k0 x = rd2 (bs (joinC [l])) a d k0 k) rfl _ _ rfl rfl
theorem rd0_ends2 {k l : Int} (hk : inK k) (hl : inK l) : EndsN XRd 20 f_fault_read (RdQ a d [k, l]) (rd0 (bs (joinC [k, l])) a d) := by
  refine VCt_ok pfRd_ok (ids := []) (S := rdS) (ks := rdK) rfl (Q := fun _ _ => False) (R := fun c => c = rd1 (bs (joinC [l])) a d k) (fun v H h => h.elim) (fun c h => by rw [h]; exact rd1_ends1 ha hk hl) 1000 _ ?_
  rw [vc_rd0]
  exact hit hk (C := fun s x => rd1 s a d x = rd1 (bs (joinC [l])) a d k) rfl _ _ rfl rfl
theorem rd0_ends3 {k l m : Int} (hk : inK k) (hl : inK l) (hm : inK m) : EndsN XRd 20 f_fault_read (RdQ a d [k, l, m]) (rd0 (bs (joinC [k, l, m])) a d) := by
  refine VCt_ok pfRd_ok (ids := []) (S := rdS) (ks := rdK) rfl (Q := fun _ _ => False) (R := fun c => c = rd1 (bs (joinC [l, m])) a d k) (fun v H h => h.elim) (fun c h => by rw [h]; exact rd1_ends2 ha hk hl hm) 1000 _ ?_
  rw [vc_rd0]
  exact hit hk (C := fun s x => rd1 s a d x = rd1 (bs (joinC [l, m])) a d k) rfl _ _ rfl rfl
theorem rd0_ends {ks : List Int} (h : planKs 8192 ks) : EndsN XRd 20 f_fault_read (RdQ a d ks) (rd0 (bs (joinC ks)) a d) := by
  obtain ⟨h1, h2, h3⟩ := h
  match ks, h1, h2, h3 with
  | [k], _, _, h3 => exact rd0_ends1 ha (h3 k (by simp))
  | [k, l], _, _, h3 => exact rd0_ends2 ha (h3 k (by simp)) (h3 l (by simp))
  | [k, l, m], _, _, h3 => exact rd0_ends3 ha (h3 k (by simp)) (h3 l (by simp)) (h3 m (by simp))
end
end Go.Ideal
