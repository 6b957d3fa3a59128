/-
  Part of the proof: the machine that runs a program by fixed orders, and that each of its runs is a run of the model; or a run of it in parts. No conditions.
-/
import Derived.Test.YtihjcloanpfkaaaGreatDoorC41r14
set_option maxRecDepth 1000000
namespace Go.Ideal
open Go.Proofs
section
variable {s z r w k v p : Int}
/-- What Random gives: an error, nothing, or a row. -/
def RndQ (b : Nat) (s z r w k v p seed n : Int) (cr : Bool) (v' : Value) (Hf : IHeap) : Prop :=
  (rnd1 s z r w k v p n = true ∧ v' = .tuple ⟨[.slice none 0 0, .int .i64 2]⟩) ∨
  (rnd1 s z r w k v p n = false ∧ n > 2000 ∧ v' = .tuple ⟨[.slice none 0 0, .int .i64 10]⟩) ∨
  (rnd1 s z r w k v p n = false ∧ n ≤ 0 ∧ v' = .tuple ⟨[.slice none 0 0, .int .i64 0]⟩) ∨
  (rnd1 s z r w k v p n = false ∧ 0 < n ∧ n ≤ 2000 ∧ OutQ b z v cr (seed % 4294967296) n v' Hf)
theorem rnd_t1 {n : Int} (h : (cfgErr s z r w k v p != 0) = true) : rnd1 s z r w k v p n = true := by unfold rnd1; rw [h]; rfl
theorem rnd_t2 {n : Int} (h : n < 0) : rnd1 s z r w k v p n = true := by unfold rnd1; rw [decide_eq_true h, Bool.or_true]
theorem rnd_f {n : Int} (h : (cfgErr s z r w k v p != 0) = false) (h2 : ¬ n < 0) : rnd1 s z r w k v p n = false := by unfold rnd1; rw [h, decide_eq_false h2]; rfl
theorem cfgOk_of {n : Int} (h : rnd1 s z r w k v p n = false) : cfgOk s z r w k v p := (cfg_of h).2.2
theorem r7_first (cr : Bool) (x n : Int) (hr : rnd1 s z r w k v p n = false) (hn : n ≤ 2000) :
    EndsN (XG cr) 20 7 (fun v' Hf => (n ≤ 0 ∧ v' = .tuple ⟨[.slice none 0 0, .int .i64 0]⟩) ∨ (0 < n ∧ OutQ 22 z v cr x n v' Hf)) (g7 cr x s z r w k v p (.slice none 0 0) n 0 id) := by
  have hc := cfgOk_of hr
  have hb : 0 ≤ z ∧ z ≤ 10000 ∧ 0 ≤ v ∧ v ≤ 1000 := by unfold cfgOk at hc; omega
  refine VCs_ok (pfG_ok cr) (ids := []) (S := r7S) rfl (Q := fun v' _ => n ≤ 0 ∧ v' = .tuple ⟨[.slice none 0 0, .int .i64 0]⟩) (R := fun c => 0 < n ∧ c = g7T cr (stS z v cr x 1) s z r w k v p n (1 : Nat) (.slice (some ⟨22, 0, some 0⟩) (opsS z v cr x 1).length capU) (opsS z v cr x 1)) (fun v H h => .inl h) (fun c h => ?_) 3000 _ ?_
  · rw [h.2]
    exact EndsN.mono (r7_loop cr x n hc hn (n.toNat - 1) 1 (by omega) (by omega) (by omega)) fun v' Hf q => .inr ⟨h.1, q⟩
  · cases cr
    · show VCs (XG false) (pfG false) 7 [] r7S _ _ 3000 (r7Nf x s z r w k v p n)
      rw [vc_7bf, ← capU_eq]
      refine bif_decide (fun h => ⟨⟨hb, rfl, rfl⟩, h, rfl⟩) (fun h => ⟨by omega, rfl⟩)
    · show VCs (XG true) (pfG true) 7 [] r7S _ _ 3000 (r7Nt x s z r w k v p n)
      rw [vc_7bt, ← capU_eq]
      refine bif_decide (fun h => ⟨⟨hb, rfl, rfl⟩, h, rfl⟩) (fun h => ⟨by omega, rfl⟩)
theorem r7_ends (cr : Bool) (seed n : Int) : EndsN (XG cr) 20 7 (RndQ 22 s z r w k v p seed n cr) (st 7 42 [cfgV s z r w k v p, .int .u64 seed, .int .i64 n, .bool cr] hp0) := by
  refine VCs_ok (pfG_ok cr) (ids := []) (S := r7S) rfl (Q := fun v' _ => (rnd1 s z r w k v p n = true ∧ v' = .tuple ⟨[.slice none 0 0, .int .i64 2]⟩) ∨ (rnd1 s z r w k v p n = false ∧ n > 2000 ∧ v' = .tuple ⟨[.slice none 0 0, .int .i64 10]⟩))
    (R := fun c => rnd1 s z r w k v p n = false ∧ n ≤ 2000 ∧ c = g7 cr (seed % 4294967296) s z r w k v p (.slice none 0 0) n 0 id) (fun v' H h => h.elim .inl fun q => .inr (.inl q)) (fun c h => ?_) 3000 _ ?_
  · obtain ⟨h1, h2, h3⟩ := h
    rw [h3]
    refine EndsN.mono (r7_first cr (seed % 4294967296) n h1 h2) fun v' Hf q => ?_
    rcases q with ⟨q1, q2⟩ | ⟨q1, q2⟩
    · exact .inr (.inr (.inl ⟨h1, q1, q2⟩))
    · exact .inr (.inr (.inr ⟨h1, q1, h2, q2⟩))
  · cases cr
    · rw [vc_7af, wrapU32]
      refine bif_both (fun h1 => .inl ⟨rnd_t1 h1, rfl⟩) (fun h1 => bif_decide (fun h2 => .inl ⟨rnd_t2 h2, rfl⟩) (fun h2 => bif_decide (fun h3 => .inr ⟨rnd_f h1 h2, h3, rfl⟩) (fun h3 => ⟨rfl, rfl, rfl, rfl, rnd_f h1 h2, by omega, rfl⟩)))
    · rw [vc_7at, wrapU32]
      refine bif_both (fun h1 => .inl ⟨rnd_t1 h1, rfl⟩) (fun h1 => bif_decide (fun h2 => .inl ⟨rnd_t2 h2, rfl⟩) (fun h2 => bif_decide (fun h3 => .inr ⟨rnd_f h1 h2, h3, rfl⟩) (fun h3 => ⟨rfl, rfl, rfl, rfl, rnd_f h1 h2, by omega, rfl⟩)))
theorem r8_loop (cr : Bool) (x n : Int) (hx : u32In x) (hc : cfgOk s z r w k v p) (hn : n ≤ 2000) : ∀ (m i : Nat), n.toNat - i = m → 1 ≤ i → (i : Int) ≤ n →
    EndsN XH 20 8 (OutQ 21 z v cr x n) (r8T (stS z v cr x i) s z r w k v p cr n i (.slice (some ⟨21, 0, some 0⟩) (opsS z v cr x i).length capU) (opsS z v cr x i)) := by
  have hb : 0 ≤ z ∧ z ≤ 10000 ∧ 0 ≤ v ∧ v ≤ 1000 := by unfold cfgOk at hc; omega
  intro m
  induction m with
  | zero =>
    intro i hm h1 hi
    have e : n.toNat = i := by omega
    refine EndsN.mono (Q := fun v' Hf => v' = .tuple ⟨[.slice (some ⟨21, 0, some 0⟩) n.toNat capU, .int .i64 0]⟩ ∧ ([] ++ refsN 4 v').map Hf.get = [some (.vec kOp (opsS z v cr x n.toNat) false)]) ?_ fun v' Hf h => ?_
    · refine VCs_ok pfH_ok (ids := []) (S := r8S) rfl (Q := fun v' os => v' = .tuple ⟨[.slice (some ⟨21, 0, some 0⟩) n.toNat capU, .int .i64 0]⟩ ∧ os = [some (.vec kOp (opsS z v cr x n.toNat) false)]) (R := fun _ => False) (fun v H h => h) (fun c h => h.elim) 3000 _ ?_
      rw [vc_8c]
      refine bif_decide (fun h => by exfalso; omega) (fun _ => ⟨?_, by rw [e]⟩)
      rw [e, opsS_length, capU_eq]
    · obtain ⟨rfl, h2⟩ := h
      exact ⟨rfl, (List.cons.inj h2).1⟩
  | succ m ih =>
    intro i hm h1 hi
    have hl : (opsS z v cr x i).length = i := opsS_length _ _ _ _ _
    have hcond : (true && Nat.ble (0 + (opsS z v cr x i).length) (opsS z v cr x i).length && bigOk 56 ((opsS z v cr x i).length + 1)) = true := by
      rw [hl, big56 (by omega), Nat.zero_add]
      simp only [Bool.and_true, Bool.true_and]
      exact Nat.ble_eq_true_of_le (Nat.le_refl _)
    refine VCs_ok pfH_ok (ids := []) (S := r8S) rfl (Q := fun _ _ => False) (R := fun c => c = r8T (stS z v cr x (i + 1)) s z r w k v p cr n (i + 1 : Nat) (.slice (some ⟨21, 0, some 0⟩) (opsS z v cr x (i + 1)).length capU) (opsS z v cr x (i + 1))) (fun v H h => h.elim) (fun c h => by rw [h]; exact ih (i + 1) (by omega) (by omega) (by omega)) 3000 _ ?_
    rw [vc_8c, wrap64 (x := (i : Int) + 1) (by omega) (by omega)]
    refine bif_decide (fun _ => ⟨⟨hb, stS_in z v cr x hx i⟩, bif_true hcond ?_⟩) (fun h => by exfalso; omega)
    rw [List.drop_zero, List.take_length, ← opsS_succ, ← capU_eq, opsS_length, opsS_length]
    rfl
theorem r8_first (cr : Bool) (x n : Int) (hx : u32In x) (hr : rnd1 s z r w k v p n = false) (hn : n ≤ 2000) :
    EndsN XH 20 8 (fun v' Hf => (n ≤ 0 ∧ v' = .tuple ⟨[.slice none 0 0, .int .i64 0]⟩) ∨ (0 < n ∧ OutQ 21 z v cr x n v' Hf)) (r8N x s z r w k v p cr n) := by
  have hc := cfgOk_of hr
  have hb : 0 ≤ z ∧ z ≤ 10000 ∧ 0 ≤ v ∧ v ≤ 1000 := by unfold cfgOk at hc; omega
  refine VCs_ok pfH_ok (ids := []) (S := r8S) rfl (Q := fun v' _ => n ≤ 0 ∧ v' = .tuple ⟨[.slice none 0 0, .int .i64 0]⟩) (R := fun c => 0 < n ∧ c = r8T (stS z v cr x 1) s z r w k v p cr n (1 : Nat) (.slice (some ⟨21, 0, some 0⟩) (opsS z v cr x 1).length capU) (opsS z v cr x 1)) (fun v H h => .inl h) (fun c h => ?_) 3000 _ ?_
  · rw [h.2]
    exact EndsN.mono (r8_loop cr x n hx hc hn (n.toNat - 1) 1 (by omega) (by omega) (by omega)) fun v' Hf q => .inr ⟨h.1, q⟩
  · rw [vc_8b, ← capU_eq]
    refine bif_decide (fun h => ⟨⟨hb, hx⟩, h, rfl⟩) (fun h => ⟨by omega, rfl⟩)
theorem r8_ends (cr : Bool) (seed n : Int) (hs : seedIn seed) : EndsN XH 20 8 (RndQ 21 s z r w k v p seed n cr) (st 8 39 [cfgV s z r w k v p, .int .u64 seed, .int .i64 n, .bool cr] hp0) := by
  have hx : u32In (seed % 4294967296) := by unfold u32In; omega
  have ht : Int.tmod seed 4294967296 = seed % 4294967296 := Int.tmod_eq_emod_of_nonneg hs.1
  refine VCs_ok pfH_ok (ids := []) (S := r8S) rfl (Q := fun v' _ => (rnd1 s z r w k v p n = true ∧ v' = .tuple ⟨[.slice none 0 0, .int .i64 2]⟩) ∨ (rnd1 s z r w k v p n = false ∧ n > 2000 ∧ v' = .tuple ⟨[.slice none 0 0, .int .i64 10]⟩))
    (R := fun c => rnd1 s z r w k v p n = false ∧ n ≤ 2000 ∧ c = r8N (seed % 4294967296) s z r w k v p cr n) (fun v' H h => h.elim .inl fun q => .inr (.inl q)) (fun c h => ?_) 3000 _ ?_
  · obtain ⟨h1, h2, h3⟩ := h
    rw [h3]
    refine EndsN.mono (r8_first cr (seed % 4294967296) n hx h1 h2) fun v' Hf q => ?_
    rcases q with ⟨q1, q2⟩ | ⟨q1, q2⟩
    · exact .inr (.inr (.inl ⟨h1, q1, q2⟩))
    · exact .inr (.inr (.inr ⟨h1, q1, h2, q2⟩))
  · rw [vc_8a, ht]
    refine bif_both (fun h1 => .inl ⟨rnd_t1 h1, rfl⟩) (fun h1 => bif_decide (fun h2 => .inl ⟨rnd_t2 h2, rfl⟩) (fun h2 => bif_decide (fun h3 => .inr ⟨rnd_f h1 h2, h3, rfl⟩) (fun h3 => ?_)))
    cases cr
    · exact bif_false rfl ⟨rnd_f h1 h2, by omega, rfl⟩
    · exact bif_true rfl ⟨rnd_f h1 h2, by omega, rfl⟩
end
end Go.Ideal
