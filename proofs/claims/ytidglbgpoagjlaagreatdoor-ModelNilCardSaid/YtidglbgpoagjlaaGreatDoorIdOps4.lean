/-
  Part of the proof: the machine that runs a program by fixed orders, and that each of its runs is a run of the model; or a run of it in parts. No conditions.
-/
import Derived.Test.YtidglbgpoagjlaaGreatDoorIdOps3
namespace Go.Ideal
section
variable {P : Program} {base : Env} {W0 : World} {μ : Inj} {H : IHeap} {W : World}

theorem slice_sim (h : HRel base W0 μ H W) {t : TypeId} {x x' v : Value} {lo lo' hi hi' mx mx' : Option Value} (hx : VRel μ x x') (hlo : OVRel μ lo lo') (hhi : OVRel μ hi hi') (hmx : OVRel μ mx mx') (hi0 : islice P t x lo hi mx H = some v) :
    ∃ v', (Instr.sliceAt t x' lo' hi' mx').run P W = .ok v' W ∧ VRel μ v v' := by
  unfold islice at hi0
  split at hi0
  · rename_i n e b off hu
    cases hx with
    | ptr _ _ T hm =>
      split at hi0
      · rename_i sz hsz
        cases hn : Nat.blt n capU
        · simp [hn] at hi0
        · simp only [hn, cond_true] at hi0
          have hn' : n < capU := Nat.le_of_ble_eq_true hn
          obtain ⟨l, hh, m', hrun, hv⟩ := isliceS_sim (P := P) (W := W) (o' := T.d + off) (cap' := n) hlo hhi hmx hm (.inl ⟨hn', rfl⟩) (.inl rfl) false (.inl hn') hi0
          refine ⟨_, ?_, hv⟩
          simp [Instr.sliceAt, run_underlying hu, Instr.sureAddr, hrun, run_sizeOf' hsz]
      · cases hi0
  · rename_i s hu
    cases hx
    split at hi0
    · rename_i l hh m hb
      cases hi0
      cases hmx
      obtain ⟨m', hrun, _, _, _⟩ := bounds_sim (P := P) (W := W) false hlo hhi .none hb (Nat.le_refl _)
      refine ⟨_, ?_, .string _⟩
      simp [Instr.sliceAt, Instr.slice, run_underlying hu, hrun]
    · cases hi0
  · rename_i e len cap hu
    cases hx
    split at hi0
    · rename_i sz l hh m hsz hb
      cases hi0
      obtain ⟨m', hrun, _, hmm, _⟩ := bounds_sim (P := P) (W := W) true hlo hhi hmx hb (Nat.le_refl _)
      have : m' = m := by rcases hmm with ⟨_, h, _⟩ | ⟨_, h1, h2⟩ <;> omega
      subst this
      refine ⟨_, ?_, .nilslice _ _⟩
      simp [Instr.sliceAt, Instr.slice, run_underlying hu, hrun, run_sizeOf' hsz]
    · cases hi0
  · rename_i e b off len cap hu
    cases hx with
    | slice _ _ _ _ cap' o' T hm hc ho =>
      split at hi0
      · rename_i sz hsz
        have fin : ∀ e', (cap < capU ∨ T.e = e') → isliceS sz e' b off len cap lo hi mx = some v → ∃ v', (Instr.sliceAt t (.slice (some ⟨T.c, o', none⟩) len cap') lo' hi' mx').run P W = .ok v' W ∧ VRel μ v v' := by
          intro e' he' hs
          obtain ⟨l, hh, m', hrun, hv⟩ := isliceS_sim (P := P) (W := W) (o' := o') (cap' := cap') hlo hhi hmx hm hc ho true he' hs
          refine ⟨_, ?_, hv⟩
          simp only [Instr.sliceAt, Instr.slice, run_underlying hu, hrun, run_sizeOf' hsz, Sem.run_bind, Result.andThen_ok, Sem.run_pure]
          by_cases e1 : m' = l <;> simp [e1]
        cases hn : Nat.blt cap capU
        · simp only [hn, cond_false] at hi0
          split at hi0
          · rename_i cs ee ro hb
            refine fin ee (.inr ?_) hi0
            obtain ⟨o1, _, hr⟩ := h.obj b _ hb T hm
            cases hr with
            | cells _ _ _ a t lo hi he hc hr hf => exact he.symm
          · cases hi0
        · simp only [hn, cond_true] at hi0
          exact fin 0 (.inl (Nat.le_of_ble_eq_true hn)) hi0
      · cases hi0
  · cases hi0

/-! make -/
noncomputable def imakeSlice (P : Program) (t : TypeId) (len cap : Value) (H : IHeap) : Option (Value × IHeap) :=
  match P.underlying t, len, cap with
  | some (.slice e), .int _ (.ofNat l), .int _ (.ofNat c) =>
    match P.info? e, zeroL P e with
    | some i, some z =>
      bif Nat.ble l c && Nat.ble (i.bytes * c) 281474976710656 && Nat.blt c 9223372036854775808 then
        some (.slice (some ⟨H.next, 0, none⟩) l c, H.alloc (.cells (zerosL z (c * i.size)) i.size false))
      else none
    | _, _ => none
  | _, _, _ => none

theorem wrap_i64 {n : Nat} (h : n < 9223372036854775808) : IntKind.i64.wrap (Int.ofNat n) = Int.ofNat n := by
  have h1 : (Int.ofNat n) = (n : Int) := rfl
  rw [h1]
  simp only [IntKind.wrap]
  simp [IntKind.bits, IntKind.signed]
  omega

theorem capU_big : 9223372036854775808 < capU := by unfold capU; decide

theorem makeSlice_run {t e : TypeId} {l c : Nat} {k1 k2 : IntKind} {i : TypeInfo} {z : List Value} (hu : P.underlying t = some (.slice e)) (hie : P.info? e = some i) (hz : zeroL P e = some z)
    (hcnd : (Nat.ble l c && Nat.ble (i.bytes * c) 281474976710656 && Nat.blt c 9223372036854775808) = true) :
    ∃ o' T, (Instr.makeSlice t (.int k1 (Int.ofNat l)) (.int k2 (Int.ofNat c))).run P W = .ok (.slice (some ⟨W.heap.size, 0, none⟩) l c) (W.alloc o') ∧ (T.c = W.heap.size ∧ T.d = 0) ∧ ORel μ T (.cells (zerosL z (c * i.size)) i.size false) o' := by
  obtain ⟨i2, zz, h1, h2, h3, h4⟩ := zeroL_eq hz
  rw [hie] at h1; cases h1
  simp only [Bool.and_eq_true] at hcnd
  have c1 := Nat.le_of_ble_eq_true hcnd.1.1
  have c2 := Nat.le_of_ble_eq_true hcnd.1.2
  have c3 : c < 9223372036854775808 := Nat.le_of_ble_eq_true hcnd.2
  have hz2 := zeros_sim (μ := μ) h3 h4 (c * i.size)
  have w1 := wrap_i64 (n := l) (by omega)
  have w2 := wrap_i64 c3
  refine ⟨.cells ((Array.range (c * i.size)).map (zz.cells[· % zz.cells.size]!)) e, _, ?_, ⟨rfl, rfl⟩, orel_cells W.heap.size i.size e hz2⟩
  have d1 : ¬ ((Int.ofNat c < 0 || ↑i.bytes * Int.ofNat c > (2 ^ 48 : Int)) = true) := by
    have hb : (i.bytes : Int) * (c : Int) ≤ 281474976710656 := by
      have := Int.ofNat_le.2 c2
      rw [Int.natCast_mul] at this
      exact this
    have hp : (2 ^ 48 : Int) = 281474976710656 := rfl
    intro hcon
    rw [Bool.or_eq_true] at hcon
    rcases hcon with hcon | hcon
    · have := of_decide_eq_true hcon
      have e : Int.ofNat c = (c : Int) := rfl
      omega
    · have hq := of_decide_eq_true hcon
      rw [hp] at hq
      have hq' : (i.bytes : Int) * (c : Int) > 281474976710656 := hq
      omega
  have d2 : ¬ (Int.ofNat l < 0) := by simp
  have d3 : ¬ (Int.ofNat l > Int.ofNat c) := by simp; omega
  simp only [Instr.makeSlice, run_underlying hu, Sem.run_bind, Result.andThen_ok, asInt, asIntOf, Sem.run_pure, typeInfo, run_program, hie, w1, w2, sizeOf]
  have d4 : ((Int.ofNat c < 0 || ↑i.bytes * Int.ofNat c > (2 ^ 48 : Int)) || decide (Int.ofNat l < 0) || decide (Int.ofNat l > Int.ofNat c)) = false := by
    rw [Bool.or_eq_false_iff, Bool.or_eq_false_iff]
    exact ⟨⟨Bool.eq_false_iff.2 d1, decide_eq_false d2⟩, decide_eq_false d3⟩
  simp only [d4]
  by_cases hn : c * i.size = 0
  · have hr0 : Array.range 0 = #[] := rfl
    simp [hn, newRow, hie, hr0]
  · simp [hn, newRow, zeroValue, typeInfo, hie, h2]

theorem makeSlice_sim (h : HRel base W0 μ H W) {t : TypeId} {len len' cap cap' v : Value} {H' : IHeap} (hl : VRel μ len len') (hc : VRel μ cap cap') (hi : imakeSlice P t len cap H = some (v, H')) :
    ∃ μ' v' W', (Instr.makeSlice t len' cap').run P W = .ok v' W' ∧ HRel base W0 μ' H' W' ∧ VRel μ' v v' ∧ Evolve μ H μ' H' := by
  unfold imakeSlice at hi
  split at hi
  · rename_i e k1 l k2 c hu
    cases hl; cases hc
    split at hi
    · rename_i i z hie hz
      cases hcnd : (Nat.ble l c && Nat.ble (i.bytes * c) 281474976710656 && Nat.blt c 9223372036854775808)
      · simp only [hcnd, cond_false] at hi; cases hi
      · simp only [hcnd, cond_true, Option.some.injEq, Prod.mk.injEq] at hi
        obtain ⟨rfl, rfl⟩ := hi
        obtain ⟨o', T, hrun, hT, ho⟩ := makeSlice_run (P := P) (μ := μ) (W := W) (k1 := k1) (k2 := k2) hu hie hz hcnd
        obtain ⟨g1, g2⟩ := h.alloc hT.1 ho
        have := capU_big
        simp only [Bool.and_eq_true] at hcnd
        have c3 : c < 9223372036854775808 := Nat.le_of_ble_eq_true hcnd.2
        have hs := slice_new (μ := μ) T H.next hT.2 l c c (.inl ⟨by omega, rfl⟩)
        rw [hT.1] at hs
        exact ⟨_, _, _, hrun, g1, hs, g2⟩
    · cases hi
  · cases hi

end
end Go.Ideal
