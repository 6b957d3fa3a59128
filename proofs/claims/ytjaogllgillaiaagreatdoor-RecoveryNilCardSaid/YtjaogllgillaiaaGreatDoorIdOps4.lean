/-
  Part of the proof: the machine that runs a program by fixed orders, and that each of its runs is a run of the model; or a run of it in parts. No conditions.
-/
import Derived.Test.YtjaogllgillaiaaGreatDoorIdOps2
namespace Go.Ideal
section
variable {P : Program} {base : Env} {W0 : World} {μ : Inj} {H : IHeap} {W : World}

inductive OVRel (μ : Inj) : Option Value → Option Value → Prop where
  | none : OVRel μ none none
  | some {v v' : Value} (h : VRel μ v v') : OVRel μ (some v) (some v')

theorem bnd_eq {x : Value} {y k : Nat} (h : bnd x y = some k) : ∃ kd, x = .int kd (Int.ofNat k) ∧ k ≤ y := by
  unfold bnd at h
  split at h
  · rename_i kd n
    cases hb : Nat.ble n y <;> simp [hb] at h
    subst h; exact ⟨kd, rfl, Nat.le_of_ble_eq_true hb⟩
  · cases h
theorem sliceBound_sim {x x' : Value} {y y' k : Nat} (hx : VRel μ x x') (h : bnd x y = some k) (hy : y ≤ y') (code : BoundsCode) : (Instr.sliceBound x' y' code).run P W = .ok k W := by
  obtain ⟨kd, rfl, hk⟩ := bnd_eq h
  cases hx
  have : (0 : Int) ≤ Int.ofNat k ∧ Int.ofNat k ≤ (y' : Int) := ⟨by simp, by have := Int.ofNat_le.2 (Nat.le_trans hk hy); simpa using this⟩
  simp only [Instr.sliceBound, asIntOf, Sem.run_bind, Sem.run_pure, Result.andThen_ok, if_pos this]
  simp

theorem bounds_sim {len cap cap' l h m : Nat} {lo lo' hi hi' mx mx' : Option Value} (isS : Bool) (hlo : OVRel μ lo lo') (hhi : OVRel μ hi hi') (hmx : OVRel μ mx mx') (hb : ibounds len cap lo hi mx = some (l, h, m)) (hc : cap ≤ cap') :
    ∃ m', (Instr.sliceBounds isS len cap' lo' hi' mx').run P W = .ok (l, h, m') W ∧ l ≤ h ∧ ((mx.isSome = true ∧ m' = m ∧ m ≤ cap) ∨ (mx = none ∧ m' = cap' ∧ m = cap)) ∧ (h ≤ m ∨ (hi = none ∧ h = len)) := by
  unfold ibounds at hb
  cases hmx with
  | none =>
    simp only [Option.bind_some] at hb
    cases hhi with
    | none =>
      simp only [Option.bind_some] at hb
      cases hlo with
      | none =>
        simp only [Option.bind_some, Option.some.injEq, Prod.mk.injEq] at hb
        obtain ⟨rfl, rfl, rfl⟩ := hb
        exact ⟨cap', by simp [Instr.sliceBounds], Nat.zero_le _, .inr ⟨rfl, rfl, rfl⟩, .inr ⟨rfl, rfl⟩⟩
      | some hv =>
        rename_i v v'
        cases hbd : bnd v len with
        | none => simp [hbd] at hb
        | some k =>
          simp only [hbd, Option.bind_some, Option.some.injEq, Prod.mk.injEq] at hb
          obtain ⟨rfl, rfl, rfl⟩ := hb
          have := bnd_eq hbd
          refine ⟨cap', ?_, by obtain ⟨_, _, h⟩ := this; exact h, .inr ⟨rfl, rfl, rfl⟩, .inr ⟨rfl, rfl⟩⟩
          simp [Instr.sliceBounds, sliceBound_sim hv hbd (Nat.le_refl _)]
    | some hw =>
      rename_i u u'
      simp only at hb
      cases hbu : bnd u cap with
      | none => simp [hbu] at hb
      | some k1 =>
        have hk1 : k1 ≤ cap := by obtain ⟨_, _, h⟩ := bnd_eq hbu; exact h
        simp only [hbu, Option.bind_some] at hb
        cases hlo with
        | none =>
          simp only [Option.bind_some, Option.some.injEq, Prod.mk.injEq] at hb
          obtain ⟨rfl, rfl, rfl⟩ := hb
          refine ⟨cap', ?_, Nat.zero_le _, .inr ⟨rfl, rfl, rfl⟩, .inl hk1⟩
          simp [Instr.sliceBounds, sliceBound_sim hw hbu hc]
        | some hv =>
          rename_i v v'
          cases hbd : bnd v k1 with
          | none => simp [hbd] at hb
          | some k =>
            simp only [hbd, Option.bind_some, Option.some.injEq, Prod.mk.injEq] at hb
            obtain ⟨rfl, rfl, rfl⟩ := hb
            have := bnd_eq hbd
            refine ⟨cap', ?_, by obtain ⟨_, _, h⟩ := this; exact h, .inr ⟨rfl, rfl, rfl⟩, .inl hk1⟩
            simp [Instr.sliceBounds, sliceBound_sim hw hbu hc, sliceBound_sim hv hbd (Nat.le_refl _)]
  | some hx =>
    rename_i x x'
    cases hbx : bnd x cap with
    | none => simp [hbx] at hb
    | some k2 =>
      have hk2 : k2 ≤ cap := by obtain ⟨_, _, h⟩ := bnd_eq hbx; exact h
      simp only [hbx, Option.bind_some] at hb
      cases hhi with
      | none => simp at hb
      | some hw =>
        rename_i u u'
        simp only at hb
        cases hbu : bnd u k2 with
        | none => simp [hbu] at hb
        | some k1 =>
          have hk1 : k1 ≤ k2 := by obtain ⟨_, _, h⟩ := bnd_eq hbu; exact h
          simp only [hbu, Option.bind_some] at hb
          cases hlo with
          | none =>
            simp only [Option.bind_some, Option.some.injEq, Prod.mk.injEq] at hb
            obtain ⟨rfl, rfl, rfl⟩ := hb
            refine ⟨k2, ?_, Nat.zero_le _, .inl ⟨rfl, rfl, hk2⟩, .inl hk1⟩
            simp [Instr.sliceBounds, sliceBound_sim hx hbx hc, sliceBound_sim hw hbu (Nat.le_refl _)]
          | some hv =>
            rename_i v v'
            cases hbd : bnd v k1 with
            | none => simp [hbd] at hb
            | some k =>
              simp only [hbd, Option.bind_some, Option.some.injEq, Prod.mk.injEq] at hb
              obtain ⟨rfl, rfl, rfl⟩ := hb
              have := bnd_eq hbd
              refine ⟨k2, ?_, by obtain ⟨_, _, h⟩ := this; exact h, .inl ⟨rfl, rfl, hk2⟩, .inl hk1⟩
              simp [Instr.sliceBounds, sliceBound_sim hx hbx hc, sliceBound_sim hw hbu (Nat.le_refl _), sliceBound_sim hv hbd (Nat.le_refl _)]

def isliceS (sz e b off len cap : Nat) (low high max : Option Value) : Option Value :=
  bif Nat.blt cap capU then
    match ibounds len cap low high max with
    | some (l, h, m) => some (.slice (some ⟨b, bif Nat.beq m l then off else off + l * sz, none⟩) (h - l) (m - l))
    | none => none
  else
    match max, ibounds len (cap - capU) low high max with
    | some _, some (l, h, m) => bif Nat.blt m capU then some (.slice (some ⟨b, bif Nat.beq m l then off else off + l * sz, none⟩) (h - l) (m - l)) else none
    | none, some (l, h, _) => bif Nat.ble l (cap - capU) && Nat.beq sz e then some (.slice (some ⟨b, off + l * sz, none⟩) (h - l) (capU + (cap - capU - l))) else none
    | _, none => none

noncomputable def elemAt (H : IHeap) (b : Nat) : Nat :=
  match H.get b with
  | some (.cells _ e _) => e
  | _ => 0

noncomputable def islice (P : Program) (t : TypeId) (x : Value) (low high max : Option Value) (H : IHeap) : Option Value :=
  match P.underlying t, x with
  | some (.array n e), .pointer (some ⟨b, off, none⟩) =>
    match sizeT P e with
    | some sz => bif Nat.blt n capU then isliceS sz 0 b off n n low high max else none
    | none => none
  | some .string, .string s =>
    match max, ibounds s.size s.size low high none with
    | none, some (l, h, _) => some (.string (s.extract l h))
    | _, _ => none
  | some (.slice e), .slice none len cap =>
    match sizeT P e, ibounds len cap low high max with
    | some _, some (l, h, m) => some (.slice none (h - l) (m - l))
    | _, _ => none
  | some (.slice e), .slice (some ⟨b, off, none⟩) len cap =>
    match sizeT P e with
    | some sz => bif Nat.blt cap capU then isliceS sz 0 b off len cap low high max else
      match H.get b with
      | some (.cells _ e _) => isliceS sz e b off len cap low high max
      | _ => none
    | none => none
  | _, _ => none

theorem add_eq (c o n : Nat) : (⟨c, o, none⟩ : Addr).add n = ⟨c, o + n, none⟩ := by
  unfold Addr.add; split <;> simp_all

theorem isliceS_sim {sz e b off o' len cap cap' : Nat} {T : Tgt} {lo lo' hi hi' mx mx' : Option Value} {v : Value} (hlo : OVRel μ lo lo') (hhi : OVRel μ hi hi') (hmx : OVRel μ mx mx') (hm : μ b = some T) (hc : CapRel T off len cap cap') (ho : o' = T.d + off ∨ (len = 0 ∧ cap' = 0))
    (isS : Bool) (hte : cap < capU ∨ T.e = e) (hi0 : isliceS sz e b off len cap lo hi mx = some v) :
    ∃ l h m', (Instr.sliceBounds isS len cap' lo' hi' mx').run P W = .ok (l, h, m') W ∧ VRel μ v (.slice (some (if m' = l then (⟨T.c, o', none⟩ : Addr) else (⟨T.c, o', none⟩ : Addr).add (l * sz))) (h - l) (m' - l)) := by
  unfold isliceS at hi0
  rcases hc with ⟨hcx, rfl⟩ | ⟨hcu, hlb, hlen, hroom⟩
  · have : Nat.blt cap' capU = true := Nat.ble_eq_true_of_le hcx
    simp only [this, cond_true] at hi0
    cases hb : ibounds len cap' lo hi mx with
    | none => simp [hb] at hi0
    | some x =>
      obtain ⟨l, h, m⟩ := x
      simp only [hb, Option.some.injEq] at hi0
      subst hi0
      obtain ⟨m', hrun, hlh, hmm, hhm⟩ := bounds_sim (P := P) (W := W) isS hlo hhi hmx hb (Nat.le_refl _)
      have hm' : m' = m := by rcases hmm with ⟨_, h, _⟩ | ⟨_, h1, h2⟩ <;> omega
      have hmle : m ≤ cap' := by rcases hmm with ⟨_, _, h⟩ | ⟨_, h1, h2⟩ <;> omega
      subst hm'
      refine ⟨l, h, m', hrun, ?_⟩
      by_cases e : m' = l
      · have hbq : Nat.beq m' l = true := by rw [e]; exact Nat.beq_refl _
        simp only [hbq, cond_true, if_pos e]
        refine .slice b off _ _ _ o' T hm (.inl ⟨by omega, rfl⟩) ?_
        rcases ho with ho | ⟨h1, h2⟩
        · exact .inl ho
        · refine .inr ⟨?_, by omega⟩
          rcases hhm with hh | ⟨_, hh⟩ <;> omega
      · have hbq : Nat.beq m' l = false := by
          cases hq : Nat.beq m' l
          · rfl
          · exact absurd (Nat.eq_of_beq_eq_true hq) e
        simp only [hbq, cond_false, if_neg e, add_eq]
        refine .slice b _ _ _ _ _ T hm (.inl ⟨by omega, rfl⟩) ?_
        rcases ho with ho | ⟨h1, h2⟩
        · exact .inl (by omega)
        · exfalso
          rcases hhm with hh | ⟨_, hh⟩ <;> omega
  · have : Nat.blt cap capU = false := by
      cases hq : Nat.blt cap capU
      · rfl
      · have : cap < capU := Nat.le_of_ble_eq_true hq
        omega
    simp only [this, cond_false] at hi0
    cases hb : ibounds len (cap - capU) lo hi mx with
    | none => cases mx <;> simp [hb] at hi0
    | some x =>
      obtain ⟨l, h, m⟩ := x
      obtain ⟨m', hrun, hlh, hmm, hhm⟩ := bounds_sim (P := P) (W := W) isS hlo hhi hmx hb hlb
      refine ⟨l, h, m', hrun, ?_⟩
      cases hmx with
      | none =>
        simp only [hb] at hi0
        have hm' : m' = cap' ∧ m = cap - capU := by
          rcases hmm with ⟨h, _⟩ | ⟨_, h1, h2⟩
          · cases h
          · exact ⟨h1, h2⟩
        obtain ⟨hm1, hm2⟩ := hm'
        subst hm1; subst hm2
        cases hle : (Nat.ble l (cap - capU) && Nat.beq sz e)
        · simp [hle] at hi0
        · simp only [hle, cond_true, Option.some.injEq] at hi0
          subst hi0
          simp only [Bool.and_eq_true] at hle
          have hll := Nat.le_of_ble_eq_true hle.1
          have hse := Nat.eq_of_beq_eq_true hle.2
          have hte' : T.e = sz := by rcases hte with hh | hh <;> omega
          have hroom' : ∀ k, k ≤ m' → off + l * sz + (m' - l) * T.e ≤ T.r ∨ m' < l := by
            intro k _
            rcases Nat.lt_or_ge m' l with hh | hh
            · exact .inr hh
            · refine .inl ?_
              rw [hte'] at hroom ⊢
              have : l * sz + (m' - l) * sz = m' * sz := by rw [← Nat.add_mul]; congr 1; omega
              omega
          have hhl : h ≤ m' := by rcases hhm with hh | ⟨_, hh⟩ <;> omega
          by_cases e : m' = l
          · simp only [if_pos e]
            refine .slice b _ _ _ _ o' T hm (.inr ⟨by omega, by omega, by omega, by have := hroom' 0 (by omega); omega, by omega⟩) (.inr ⟨by omega, by omega⟩)
          · simp only [if_neg e, add_eq]
            refine .slice b _ _ _ _ _ T hm (.inr ⟨by omega, by omega, by omega, by have := hroom' 0 (by omega); omega, by omega⟩) ?_
            rcases ho with ho | ⟨h1, h2⟩
            · exact .inl (by omega)
            · exfalso; omega
      | some hx =>
        simp only [hb] at hi0
        cases hlt : Nat.blt m capU
        · simp [hlt] at hi0
        simp only [hlt, cond_true, Option.some.injEq] at hi0
        subst hi0
        have hltm : m < capU := Nat.le_of_ble_eq_true hlt
        have hm' : m' = m ∧ m ≤ cap - capU := by
          rcases hmm with ⟨_, h1, h2⟩ | ⟨h, _⟩
          · exact ⟨h1, h2⟩
          · cases h
        obtain ⟨hm1, hml⟩ := hm'
        subst hm1
        by_cases e : m' = l
        · have hbq : Nat.beq m' l = true := by rw [e]; exact Nat.beq_refl _
          simp only [hbq, cond_true, if_pos e]
          refine .slice b off _ _ _ o' T hm (.inl ⟨by omega, rfl⟩) ?_
          rcases ho with ho | ⟨h1, h2⟩
          · exact .inl ho
          · refine .inr ⟨?_, by omega⟩
            rcases hhm with hh | ⟨_, hh⟩ <;> omega
        · have hbq : Nat.beq m' l = false := by
            cases hq : Nat.beq m' l
            · rfl
            · exact absurd (Nat.eq_of_beq_eq_true hq) e
          simp only [hbq, cond_false, if_neg e, add_eq]
          refine .slice b _ _ _ _ _ T hm (.inl ⟨by omega, rfl⟩) ?_
          rcases ho with ho | ⟨h1, h2⟩
          · exact .inl (by omega)
          · exfalso
            rcases hhm with hh | ⟨_, hh⟩ <;> omega

end
end Go.Ideal

namespace Go.Ideal
section
variable {P : Program} {base : Env} {W0 : World} {μ : Inj} {H : IHeap} {W : World}

theorem slice_sim (h : HRel base W0 μ H W) {t : TypeId} {x x' v : Value} {lo lo' hi hi' mx mx' : Option Value} (hx : VRel μ x x') (hlo : OVRel μ lo lo') (hhi : OVRel μ hi hi') (hmx : OVRel μ mx mx') (hi0 : islice P t x lo hi mx H = some v) :
    ∃ v', (Instr.sliceAt t x' lo' hi' mx').run P W = .ok v' W ∧ VRel μ v v' := by
  unfold islice at hi0
  split at hi0
  · rename_i n e b off hu
    cases hx with
    | ptr _ _ T hm =>
      split at hi0
      · rename_i sz hsz
        cases hn : Nat.blt n capU
        · simp [hn] at hi0
        · simp only [hn, cond_true] at hi0
          have hn' : n < capU := Nat.le_of_ble_eq_true hn
          obtain ⟨l, hh, m', hrun, hv⟩ := isliceS_sim (P := P) (W := W) (o' := T.d + off) (cap' := n) hlo hhi hmx hm (.inl ⟨hn', rfl⟩) (.inl rfl) false (.inl hn') hi0
          refine ⟨_, ?_, hv⟩
          simp [Instr.sliceAt, run_underlying hu, Instr.sureAddr, hrun, run_sizeOf' hsz]
      · cases hi0
  · rename_i s hu
    cases hx
    split at hi0
    · rename_i l hh m hb
      cases hi0
      cases hmx
      obtain ⟨m', hrun, _, _, _⟩ := bounds_sim (P := P) (W := W) false hlo hhi .none hb (Nat.le_refl _)
      refine ⟨_, ?_, .string _⟩
      simp [Instr.sliceAt, Instr.slice, run_underlying hu, hrun]
    · cases hi0
  · rename_i e len cap hu
    cases hx
    split at hi0
    · rename_i sz l hh m hsz hb
      cases hi0
      obtain ⟨m', hrun, _, hmm, _⟩ := bounds_sim (P := P) (W := W) true hlo hhi hmx hb (Nat.le_refl _)
      have : m' = m := by rcases hmm with ⟨_, h, _⟩ | ⟨_, h1, h2⟩ <;> omega
      subst this
      refine ⟨_, ?_, .nilslice _ _⟩
      simp [Instr.sliceAt, Instr.slice, run_underlying hu, hrun, run_sizeOf' hsz]
    · cases hi0
  · rename_i e b off len cap hu
    cases hx with
    | slice _ _ _ _ cap' o' T hm hc ho =>
      split at hi0
      · rename_i sz hsz
        have fin : ∀ e', (cap < capU ∨ T.e = e') → isliceS sz e' b off len cap lo hi mx = some v → ∃ v', (Instr.sliceAt t (.slice (some ⟨T.c, o', none⟩) len cap') lo' hi' mx').run P W = .ok v' W ∧ VRel μ v v' := by
          intro e' he' hs
          obtain ⟨l, hh, m', hrun, hv⟩ := isliceS_sim (P := P) (W := W) (o' := o') (cap' := cap') hlo hhi hmx hm hc ho true he' hs
          refine ⟨_, ?_, hv⟩
          simp only [Instr.sliceAt, Instr.slice, run_underlying hu, hrun, run_sizeOf' hsz, Sem.run_bind, Result.andThen_ok, Sem.run_pure]
          by_cases e1 : m' = l <;> simp [e1]
        cases hn : Nat.blt cap capU
        · simp only [hn, cond_false] at hi0
          split at hi0
          · rename_i cs ee ro hb
            refine fin ee (.inr ?_) hi0
            obtain ⟨o1, _, hr⟩ := h.obj b _ hb T hm
            cases hr with
            | cells _ _ _ a t lo hi he hc hr hf => exact he.symm
          · cases hi0
        · simp only [hn, cond_true] at hi0
          exact fin 0 (.inl (Nat.le_of_ble_eq_true hn)) hi0
      · cases hi0
  · cases hi0

/-! make -/
noncomputable def imakeSlice (P : Program) (t : TypeId) (len cap : Value) (H : IHeap) : Option (Value × IHeap) :=
  match P.underlying t, len, cap with
  | some (.slice e), .int _ (.ofNat l), .int _ (.ofNat c) =>
    match P.info? e, zeroL P e with
    | some i, some z =>
      bif Nat.ble l c && Nat.ble (i.bytes * c) 281474976710656 && Nat.blt c 9223372036854775808 then
        some (.slice (some ⟨H.next, 0, none⟩) l c, H.alloc (.cells (zerosL z (c * i.size)) i.size false))
      else none
    | _, _ => none
  | _, _, _ => none

theorem wrap_i64 {n : Nat} (h : n < 9223372036854775808) : IntKind.i64.wrap (Int.ofNat n) = Int.ofNat n := by
  have h1 : (Int.ofNat n) = (n : Int) := rfl
  rw [h1]
  simp only [IntKind.wrap]
  simp [IntKind.bits, IntKind.signed]
  omega

theorem capU_big : 9223372036854775808 < capU := by unfold capU; decide

theorem makeSlice_run {t e : TypeId} {l c : Nat} {k1 k2 : IntKind} {i : TypeInfo} {z : List Value} (hu : P.underlying t = some (.slice e)) (hie : P.info? e = some i) (hz : zeroL P e = some z)
    (hcnd : (Nat.ble l c && Nat.ble (i.bytes * c) 281474976710656 && Nat.blt c 9223372036854775808) = true) :
    ∃ o' T, (Instr.makeSlice t (.int k1 (Int.ofNat l)) (.int k2 (Int.ofNat c))).run P W = .ok (.slice (some ⟨W.heap.size, 0, none⟩) l c) (W.alloc o') ∧ (T.c = W.heap.size ∧ T.d = 0) ∧ ORel μ T (.cells (zerosL z (c * i.size)) i.size false) o' := by
  obtain ⟨i2, zz, h1, h2, h3, h4⟩ := zeroL_eq hz
  rw [hie] at h1; cases h1
  simp only [Bool.and_eq_true] at hcnd
  have c1 := Nat.le_of_ble_eq_true hcnd.1.1
  have c2 := Nat.le_of_ble_eq_true hcnd.1.2
  have c3 : c < 9223372036854775808 := Nat.le_of_ble_eq_true hcnd.2
  have hz2 := zeros_sim (μ := μ) h3 h4 (c * i.size)
  have w1 := wrap_i64 (n := l) (by omega)
  have w2 := wrap_i64 c3
  refine ⟨.cells ((Array.range (c * i.size)).map (zz.cells[· % zz.cells.size]!)) e, _, ?_, ⟨rfl, rfl⟩, orel_cells W.heap.size i.size e hz2⟩
  have d1 : ¬ ((Int.ofNat c < 0 || ↑i.bytes * Int.ofNat c > (2 ^ 48 : Int)) = true) := by
    have hb : (i.bytes : Int) * (c : Int) ≤ 281474976710656 := by
      have := Int.ofNat_le.2 c2
      rw [Int.natCast_mul] at this
      exact this
    have hp : (2 ^ 48 : Int) = 281474976710656 := rfl
    intro hcon
    rw [Bool.or_eq_true] at hcon
    rcases hcon with hcon | hcon
    · have := of_decide_eq_true hcon
      have e : Int.ofNat c = (c : Int) := rfl
      omega
    · have hq := of_decide_eq_true hcon
      rw [hp] at hq
      have hq' : (i.bytes : Int) * (c : Int) > 281474976710656 := hq
      omega
  have d2 : ¬ (Int.ofNat l < 0) := by simp
  have d3 : ¬ (Int.ofNat l > Int.ofNat c) := by simp; omega
  simp only [Instr.makeSlice, run_underlying hu, Sem.run_bind, Result.andThen_ok, asInt, asIntOf, Sem.run_pure, typeInfo, run_program, hie, w1, w2, sizeOf]
  have d4 : ((Int.ofNat c < 0 || ↑i.bytes * Int.ofNat c > (2 ^ 48 : Int)) || decide (Int.ofNat l < 0) || decide (Int.ofNat l > Int.ofNat c)) = false := by
    rw [Bool.or_eq_false_iff, Bool.or_eq_false_iff]
    exact ⟨⟨Bool.eq_false_iff.2 d1, decide_eq_false d2⟩, decide_eq_false d3⟩
  simp only [d4]
  by_cases hn : c * i.size = 0
  · have hr0 : Array.range 0 = #[] := rfl
    simp [hn, newRow, hie, hr0]
  · simp [hn, newRow, zeroValue, typeInfo, hie, h2]

theorem makeSlice_sim (h : HRel base W0 μ H W) {t : TypeId} {len len' cap cap' v : Value} {H' : IHeap} (hl : VRel μ len len') (hc : VRel μ cap cap') (hi : imakeSlice P t len cap H = some (v, H')) :
    ∃ μ' v' W', (Instr.makeSlice t len' cap').run P W = .ok v' W' ∧ HRel base W0 μ' H' W' ∧ VRel μ' v v' ∧ Evolve μ H μ' H' := by
  unfold imakeSlice at hi
  split at hi
  · rename_i e k1 l k2 c hu
    cases hl; cases hc
    split at hi
    · rename_i i z hie hz
      cases hcnd : (Nat.ble l c && Nat.ble (i.bytes * c) 281474976710656 && Nat.blt c 9223372036854775808)
      · simp only [hcnd, cond_false] at hi; cases hi
      · simp only [hcnd, cond_true, Option.some.injEq, Prod.mk.injEq] at hi
        obtain ⟨rfl, rfl⟩ := hi
        obtain ⟨o', T, hrun, hT, ho⟩ := makeSlice_run (P := P) (μ := μ) (W := W) (k1 := k1) (k2 := k2) hu hie hz hcnd
        obtain ⟨g1, g2⟩ := h.alloc hT.1 ho
        have := capU_big
        simp only [Bool.and_eq_true] at hcnd
        have c3 : c < 9223372036854775808 := Nat.le_of_ble_eq_true hcnd.2
        have hs := slice_new (μ := μ) T H.next hT.2 l c c (.inl ⟨by omega, rfl⟩)
        rw [hT.1] at hs
        exact ⟨_, _, _, hrun, g1, hs, g2⟩
    · cases hi
  · cases hi

end
end Go.Ideal
