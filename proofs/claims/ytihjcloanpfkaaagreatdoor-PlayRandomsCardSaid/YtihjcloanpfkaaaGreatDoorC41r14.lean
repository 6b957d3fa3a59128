/-
  Part of the proof: the machine that runs a program by fixed orders, and that each of its runs is a run of the model; or a run of it in parts. No conditions.
-/
import Derived.Test.YtihjcloanpfkaaaGreatDoorC41r13
set_option maxRecDepth 1000000
namespace Go.Ideal
open Go.Proofs
theorem IOk.or {P : Program} {laid : List (Nat × List Value)} {f : FuncId} {F F1 F2 : IFun} (h1 : IOk P laid f F1) (h2 : IOk P laid f F2) (h : ∀ args H r, F args H = some r → F1 args H = some r ∨ F2 args H = some r) : IOk P laid f F :=
  ⟨h1.1, fun base W0 μ H W args args' v H' a b c d hF => (h args H (v, H') hF).elim (fun e => h1.2 base W0 μ H W args args' v H' a b c d e) (fun e => h2.2 base W0 μ H W args args' v H' a b c d e)⟩
theorem foot_or {laid : List (Nat × List Value)} {N : Nat} {muts : List Bool} {G G1 G2 : List Value → List IObj → GT} (h : ∀ args objs x, (G args objs).run = some x → (G1 args objs).run = some x ∨ (G2 args objs).run = some x) (args : List Value) (H : IHeap) (r : Value × IHeap)
    (hF : footF laid N muts G args H = some r) : footF laid N muts G1 args H = some r ∨ footF laid N muts G2 args H = some r := by
  unfold footF at hF ⊢
  split at hF
  · rename_i argsc objs h1 h2
    cases hm : mutsOk muts H 0 (reach2 H N 200 (args.flatMap (refsN 4)) [])
    · simp only [hm, cond_false] at hF; cases hF
    · simp only [hm, cond_true] at hF ⊢
      split at hF
      · rename_i x hx
        rcases h argsc objs x hx with e | e
        · left; rw [e]; exact hF
        · right; rw [e]; exact hF
      · cases hF
  · cases hF
def seedIn (x : Int) : Prop := 0 ≤ x ∧ x < 18446744073709551616
def rnd1 (s z r w k v p n : Int) : Bool := (cfgErr s z r w k v p != 0) || decide (n < 0)
open Classical in
/-- What both Randoms give. -/
noncomputable def rndG (args : List Value) (objs : List IObj) : GT := match args, objs with
  | [.agg ⟨[.int .i64 s, .int .i64 z, .int .i64 r, .int .i64 w, .int .i64 k, .int .i64 v, .int .i64 p]⟩, .int .u64 seed, .int .i64 n, .bool cr], [] =>
    .ask (seedIn seed) (.test (rnd1 s z r w k v p n) (.ret ⟨.tuple ⟨[.slice none 0 0, .int .i64 2]⟩, [], []⟩)
      (.test (decide (n > 2000)) (.ret ⟨.tuple ⟨[.slice none 0 0, .int .i64 10]⟩, [], []⟩)
        (.test (decide (n ≤ 0)) (.ret ⟨.tuple ⟨[.slice none 0 0, .int .i64 0]⟩, [], []⟩)
          (.ret ⟨.tuple ⟨[.slice (some ⟨20, 0, some 0⟩) n.toNat capU, .int .i64 0]⟩, [], [.vec kOp (opsS z v cr (seed % 4294967296) n.toNat) false]⟩))))
  | _, _ => .fail
noncomputable def rndGc (c : Bool) (args : List Value) (objs : List IObj) : GT := match args, objs with
  | [a, b, n, .bool cr], [] => bif cr == c then rndG [a, b, n, .bool cr] [] else .fail
  | _, _ => .fail
theorem rnd_or (args : List Value) (objs : List IObj) (x : Leaf) (h : (rndG args objs).run = some x) : (rndGc true args objs).run = some x ∨ (rndGc false args objs).run = some x := by
  have h0 := h
  unfold rndG at h
  split at h
  · rename_i cr
    cases cr
    · exact .inr h0
    · exact .inl h0
  · cases h
theorem cfg_of {s z r w k v p n : Int} (h : rnd1 s z r w k v p n = false) : cfgErr s z r w k v p = 0 ∧ 0 ≤ n ∧ cfgOk s z r w k v p := by
  unfold rnd1 at h
  simp only [Bool.or_eq_false_iff, bne_eq_false_iff_eq, decide_eq_false_iff_not] at h
  refine ⟨h.1, by omega, ?_⟩
  have h1 := h.1
  unfold cfgErr at h1
  split at h1
  · assumption
  · omega
/-- The row that comes out. -/
theorem tm_row {m b : Nat} {v v' : Value} {k : EK} {l : List (EK.C k)} {Hf : IHeap} (hk : k.all noTok = true) (hb : 20 + m ≤ b) (hv : renV (TMatch.runOf tabLaid 20 m [b]) v = some v') (h : Hf.get b = some (.vec k l false)) : TMatch tabLaid 20 m [] ⟨v, [], [.vec k l false]⟩ v' Hf := by
  refine ⟨[b], by simp, fun c hc => by simp at hc; omega, rfl, hv, fun j c o hj ho => ?_, fun j o _ _ ho => by cases ho⟩
  cases j with
  | zero =>
    cases hj; cases ho
    refine ⟨.vec k l false, ?_, h⟩
    simp only [renO, hk, cond_true]
  | succ j => cases hj
theorem big56 {n : Nat} (h : n ≤ 100000) : bigOk 56 n = true := by
  unfold bigOk
  simp only [Bool.and_eq_true]
  exact ⟨Nat.ble_eq_true_of_le (by omega), Nat.ble_eq_true_of_le (by omega)⟩
theorem pfG_ok (cr : Bool) : PfOk (XG cr) (pfG cr) := by
  intro f F hf args H K hF
  unfold pfG at hf
  cases h1 : Nat.beq f 26
  · rw [h1] at hf; cases hf
  rw [h1] at hf; cases hf
  have := Nat.eq_of_beq_eq_true h1; subst this
  exact footPf_ok (X := XG cr) rfl hF
theorem pfH_ok : PfOk XH pfH := by
  intro f F hf args H K hF
  unfold pfH at hf
  cases h1 : Nat.beq f 28
  · rw [h1] at hf; cases hf
  rw [h1] at hf; cases hf
  have := Nat.eq_of_beq_eq_true h1; subst this
  exact footPf_ok (X := XH) rfl hF
section
variable {s z r w k v p : Int}
def OutQ (b : Nat) (z v : Int) (cr : Bool) (x : Int) (n : Int) (v' : Value) (Hf : IHeap) : Prop :=
  v' = .tuple ⟨[.slice (some ⟨b, 0, some 0⟩) n.toNat capU, .int .i64 0]⟩ ∧ Hf.get b = some (.vec kOp (opsS z v cr x n.toNat) false)
theorem opsS_succ (cr : Bool) (x : Int) (i : Nat) : opsS z v cr x (i + 1) = opsS z v cr x i ++ [((opS z v cr (stS z v cr x i)).1.1, (opS z v cr (stS z v cr x i)).1.2.1, (opS z v cr (stS z v cr x i)).1.2.2.1, (opS z v cr (stS z v cr x i)).1.2.2.2.1, (opS z v cr (stS z v cr x i)).1.2.2.2.2)] := rfl
theorem r7_loop (cr : Bool) (x n : Int) (hc : cfgOk s z r w k v p) (hn : n ≤ 2000) : ∀ (m i : Nat), n.toNat - i = m → 1 ≤ i → (i : Int) ≤ n →
    EndsN (XG cr) 20 7 (OutQ 22 z v cr x n) (g7T cr (stS z v cr x i) s z r w k v p n i (.slice (some ⟨22, 0, some 0⟩) (opsS z v cr x i).length capU) (opsS z v cr x i)) := by
  have hb : 0 ≤ z ∧ z ≤ 10000 ∧ 0 ≤ v ∧ v ≤ 1000 := by unfold cfgOk at hc; omega
  intro m
  induction m with
  | zero =>
    intro i hm h1 hi
    have e : n.toNat = i := by omega
    refine EndsN.mono (Q := fun v' Hf => v' = .tuple ⟨[.slice (some ⟨22, 0, some 0⟩) n.toNat capU, .int .i64 0]⟩ ∧ ([] ++ refsN 4 v').map Hf.get = [some (.vec kOp (opsS z v cr x n.toNat) false)]) ?_ fun v' Hf h => ?_
    · refine VCs_ok (pfG_ok cr) (ids := []) (S := r7S) rfl (Q := fun v' os => v' = .tuple ⟨[.slice (some ⟨22, 0, some 0⟩) n.toNat capU, .int .i64 0]⟩ ∧ os = [some (.vec kOp (opsS z v cr x n.toNat) false)]) (R := fun _ => False) (fun v H h => h) (fun c h => h.elim) 3000 _ ?_
      cases cr
      · show VCs (XG false) (pfG false) 7 [] r7S _ _ 3000 (r7Tf _ s z r w k v p n i _ _)
        rw [vc_7cf]
        refine bif_decide (fun h => by exfalso; omega) (fun _ => ⟨?_, by rw [e]⟩)
        rw [e, opsS_length, capU_eq]
      · show VCs (XG true) (pfG true) 7 [] r7S _ _ 3000 (r7Tt _ s z r w k v p n i _ _)
        rw [vc_7ct]
        refine bif_decide (fun h => by exfalso; omega) (fun _ => ⟨?_, by rw [e]⟩)
        rw [e, opsS_length, capU_eq]
    · obtain ⟨rfl, h2⟩ := h
      exact ⟨rfl, (List.cons.inj h2).1⟩
  | succ m ih =>
    intro i hm h1 hi
    have hl : (opsS z v cr x i).length = i := opsS_length _ _ _ _ _
    have hcond : (true && Nat.ble (0 + (opsS z v cr x i).length) (opsS z v cr x i).length && bigOk 56 ((opsS z v cr x i).length + 1)) = true := by
      rw [hl, big56 (by omega), Nat.zero_add]
      simp only [Bool.and_true, Bool.true_and]
      exact Nat.ble_eq_true_of_le (Nat.le_refl _)
    have hend : ∀ R : Cfg → Prop, R (g7T cr (stS z v cr x (i + 1)) s z r w k v p n (i + 1 : Nat) (.slice (some ⟨22, 0, some 0⟩) (opsS z v cr x (i + 1)).length capU) (opsS z v cr x (i + 1))) →
        R (g7T cr (opS z v cr (stS z v cr x i)).2 s z r w k v p n ((i : Int) + 1) (.slice (some ⟨22, 0, some 0⟩) ((opsS z v cr x i).length + 1) 18446744073709551616) (List.take (opsS z v cr x i).length (List.drop 0 (opsS z v cr x i)) ++ [((opS z v cr (stS z v cr x i)).1.1, (opS z v cr (stS z v cr x i)).1.2.1, (opS z v cr (stS z v cr x i)).1.2.2.1, (opS z v cr (stS z v cr x i)).1.2.2.2.1, (opS z v cr (stS z v cr x i)).1.2.2.2.2)])) := by
      intro R hR
      rw [List.drop_zero, List.take_length, ← opsS_succ, ← capU_eq]
      rw [opsS_length] at hR
      rw [hl]
      exact hR
    refine VCs_ok (pfG_ok cr) (ids := []) (S := r7S) rfl (Q := fun _ _ => False) (R := fun c => c = g7T cr (stS z v cr x (i + 1)) s z r w k v p n (i + 1 : Nat) (.slice (some ⟨22, 0, some 0⟩) (opsS z v cr x (i + 1)).length capU) (opsS z v cr x (i + 1))) (fun v H h => h.elim) (fun c h => by rw [h]; exact ih (i + 1) (by omega) (by omega) (by omega)) 3000 _ ?_
    cases cr
    · show VCs (XG false) (pfG false) 7 [] r7S _ _ 3000 (r7Tf _ s z r w k v p n i _ _)
      rw [vc_7cf, wrap64 (x := (i : Int) + 1) (by omega) (by omega)]
      refine bif_decide (fun _ => ⟨⟨hb, rfl, rfl⟩, bif_true hcond (hend (fun c => c = _) rfl)⟩) (fun h => by exfalso; omega)
    · show VCs (XG true) (pfG true) 7 [] r7S _ _ 3000 (r7Tt _ s z r w k v p n i _ _)
      rw [vc_7ct, wrap64 (x := (i : Int) + 1) (by omega) (by omega)]
      refine bif_decide (fun _ => ⟨⟨hb, rfl, rfl⟩, bif_true hcond (hend (fun c => c = _) rfl)⟩) (fun h => by exfalso; omega)
end
end Go.Ideal
