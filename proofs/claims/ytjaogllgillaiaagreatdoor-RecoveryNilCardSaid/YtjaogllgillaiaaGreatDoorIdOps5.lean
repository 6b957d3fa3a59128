/-
  Part of the proof: the machine that runs a program by fixed orders, and that each of its runs is a run of the model; or a run of it in parts. No conditions.
-/
import Derived.Test.YtjaogllgillaiaaGreatDoorIdAppend
import Derived.Orders
namespace Go.Ideal
section
variable {P : Program} {base : Env} {W0 : World} {μ : Inj} {H : IHeap} {W : World}

/-! copy -/
noncomputable def icopy (P : Program) (argTypes : Array TypeId) (args : List Value) (H : IHeap) : Option (Value × IHeap) :=
  match argTypes.toList, args with
  | dT :: _, [.slice a dLen _, src] =>
    match P.underlying dT with
    | some (.slice e) =>
      match sizeT P e with
      | some sz =>
        match isrc sz src H with
        | some (n, l) =>
          let m := Nat.min n dLen
          let new := l.take (m * sz)
          bif Nat.beq (m * sz) 0 then some (.int .i64 (Int.ofNat m), H) else
          match a with
          | some ⟨b, off, none⟩ =>
            match H.get b with
            | some (.cells cs e false) =>
              bif new.all okCell && Nat.ble (off + new.length) cs.length then some (.int .i64 (Int.ofNat m), H.put b (.cells (splice cs off new) e false)) else none
            | _ => none
          | _ => none
        | none => none
      | none => none
    | _ => none
  | _, _ => none

theorem two_args {args : List Value} {args' : Array Value} {s x : Value} (ha : LRel μ args args'.toList) (he : args = [s, x]) : ∃ s' x', args' = #[s', x'] ∧ VRel μ s s' ∧ VRel μ x x' := by
  subst he
  generalize hq : args'.toList = q at ha
  cases ha with
  | cons h1 h2 => cases h2 with
    | cons h3 h4 => cases h4; exact ⟨_, _, by rw [← Array.toList_inj, hq], h1, h3⟩
theorem one_arg {args : List Value} {args' : Array Value} {s : Value} (ha : LRel μ args args'.toList) (he : args = [s]) : ∃ s', args' = #[s'] ∧ VRel μ s s' := by
  subst he
  generalize hq : args'.toList = q at ha
  cases ha with
  | cons h1 h2 => cases h2; exact ⟨_, by rw [← Array.toList_inj, hq], h1⟩

theorem copy_sim (h : HRel base W0 μ H W) {argTypes : Array TypeId} {args : List Value} {args' : Array Value} {ty : TypeId} {v : Value} {H' : IHeap} (ha : LRel μ args args'.toList) (hi : icopy P argTypes args H = some (v, H')) :
    ∃ v' W', (Builtin.copy_ argTypes ty args').run P W = .ok v' W' ∧ HRel base W0 μ H' W' ∧ VRel μ v v' ∧ Evolve μ H μ H' := by
  unfold icopy at hi
  split at hi
  · rename_i dT rest a dLen dCap src hty
    obtain ⟨s', x', rfl, hs, hx⟩ := two_args ha rfl
    have ht0 : argTypes[0]? = some dT := by rw [← Array.getElem?_toList, hty]; rfl
    split at hi
    · rename_i e hu
      split at hi
      · rename_i sz hsz
        split at hi
        · rename_i n l hsrc
          obtain ⟨hlen, hll, l', r1, r2⟩ := src_sim (P := P) h hx hsrc (Nat.min_le_left n dLen)
          have hml : Nat.min n dLen * sz ≤ n * sz := Nat.mul_le_mul_right _ (Nat.min_le_left _ _)
          have htl : (l.take (Nat.min n dLen * sz)).length = Nat.min n dLen * sz := by rw [List.length_take]; omega
          cases hz : Nat.beq (Nat.min n dLen * sz) 0
          · simp only [hz, cond_false] at hi
            split at hi
            · rename_i b off
              cases hs with
              | slice _ _ _ _ cap' o' T hm hcr ho =>
                split at hi
                · rename_i cs ee hget
                  cases hbb : ((l.take (Nat.min n dLen * sz)).all okCell && Nat.ble (off + (l.take (Nat.min n dLen * sz)).length) cs.length)
                  · rw [hbb] at hi; cases hi
                  · rw [hbb] at hi
                    simp only [cond_true, Option.some.injEq, Prod.mk.injEq] at hi
                    obtain ⟨rfl, rfl⟩ := hi
                    simp only [Bool.and_eq_true] at hbb
                    have b2 := Nat.le_of_ble_eq_true hbb.2
                    have hnz : Nat.min n dLen * sz ≠ 0 := by intro e1; rw [e1] at hz; cases hz
                    have hoo : o' = T.d + off := by
                      rcases ho with ho | ⟨h1, _⟩
                      · exact ho
                      · subst h1; exact absurd (by simp) hnz
                    subst hoo
                    obtain ⟨W', w1, w2, w3⟩ := HRel.stores P hm _ l' H W cs off 0 h hget r1 hbb.1 (by omega)
                    refine ⟨_, W', ?_, w2, .int _ _, w3⟩
                    simp only [Builtin.copy_, ht0, List.getElem?_toArray, List.getElem?_cons_zero, List.getElem?_cons_succ, Sem.run_bind, run_underlying hu, Result.andThen_ok, hlen, run_sizeOf' hsz, r2, w1, Sem.run_pure, goInt]
                    rfl
                · cases hi
            · cases hi
          · simp only [hz, cond_true, Option.some.injEq, Prod.mk.injEq] at hi
            obtain ⟨rfl, rfl⟩ := hi
            have hz := Nat.eq_of_beq_eq_true hz
            have hl0 : l' = [] := by
              have := r1.length
              rw [htl, hz] at this
              exact List.eq_nil_of_length_eq_zero this.symm
            subst hl0
            refine ⟨.int .i64 (Int.ofNat (Nat.min n dLen)), W, ?_, h, .int _ _, Evolve.refl _ _⟩
            cases hs with
            | nilslice => simp [Builtin.copy_, ht0, run_underlying hu, hlen, run_sizeOf' hsz, r2, goInt]
            | vslice => simp [Builtin.copy_, ht0, run_underlying hu, hlen, run_sizeOf' hsz, r2, goInt, storeCells]
            | slice => simp [Builtin.copy_, ht0, run_underlying hu, hlen, run_sizeOf' hsz, r2, goInt, storeCells]
        · cases hi
      · cases hi
    · cases hi
  · cases hi

/-! clear -/
noncomputable def iclear (P : Program) (argTypes : Array TypeId) (args : List Value) (H : IHeap) : Option (Value × IHeap) :=
  match argTypes.toList, args with
  | t :: _, [.slice a n _] =>
    match P.underlying t with
    | some (.slice e) =>
      bif Nat.beq n 0 then some (Go.undef, H) else
      match zeroL P e, a with
      | some z, some ⟨b, off, none⟩ =>
        match H.get b with
        | some (.cells cs e false) =>
          let new := zerosL z (n * z.length)
          bif new.all okCell && Nat.ble (off + new.length) cs.length then some (Go.undef, H.put b (.cells (splice cs off new) e false)) else none
        | _ => none
      | _, _ => none
    | _ => none
  | _, _ => none

theorem clear_sim (h : HRel base W0 μ H W) {argTypes : Array TypeId} {args : List Value} {args' : Array Value} {ty : TypeId} {v : Value} {H' : IHeap} (ha : LRel μ args args'.toList) (hi : iclear P argTypes args H = some (v, H')) :
    ∃ v' W', (Builtin.clear_ argTypes ty args').run P W = .ok v' W' ∧ HRel base W0 μ H' W' ∧ VRel μ v v' ∧ Evolve μ H μ H' := by
  unfold iclear at hi
  split at hi
  · rename_i t rest a n cap hty
    obtain ⟨s', rfl, hs⟩ := one_arg ha rfl
    have ht0 : argTypes[0]? = some t := by rw [← Array.getElem?_toList, hty]; rfl
    split at hi
    · rename_i e hu
      cases hz : Nat.beq n 0
      · simp only [hz, cond_false] at hi
        have hn0 : n ≠ 0 := by intro e1; rw [e1] at hz; cases hz
        split at hi
        · rename_i z b off hzl
          obtain ⟨zz, q1, q2, q3⟩ := run_zeroValue' hzl W
          cases hs with
          | slice _ _ _ _ cap' o' T hm hcr ho =>
            split at hi
            · rename_i cs ee hget
              cases hbb : ((zerosL z (n * z.length)).all okCell && Nat.ble (off + (zerosL z (n * z.length)).length) cs.length)
              · simp only [hbb, cond_false] at hi; cases hi
              · simp only [hbb, cond_true, Option.some.injEq, Prod.mk.injEq] at hi
                obtain ⟨rfl, rfl⟩ := hi
                simp only [Bool.and_eq_true] at hbb
                have b2 := Nat.le_of_ble_eq_true hbb.2
                have hoo : o' = T.d + off := by
                  rcases ho with ho | ⟨h1, _⟩
                  · exact ho
                  · exact absurd h1 hn0
                subst hoo
                have hl := zeros_sim (μ := μ) q2 q3 (n * z.length)
                obtain ⟨W', w1, w2, w3⟩ := HRel.stores P hm _ _ H W cs off 0 h hget hl hbb.1 (by omega)
                refine ⟨_, W', ?_, w2, VRel.undef μ, w3⟩
                have hzc : (Builtin.zeroCells zz.cells n).toList = ((Array.range (n * z.length)).map (zz.cells[· % zz.cells.size]!)).toList := by
                  have : zz.cells.size = z.length := by rw [← q3]; simp
                  simp only [Builtin.zeroCells, this]
                obtain ⟨k, rfl⟩ : ∃ k, n = k + 1 := ⟨n - 1, by omega⟩
                simp only [Builtin.clear_, ht0, List.getElem?_toArray, List.getElem?_cons_zero, Sem.run_bind, run_underlying hu, Result.andThen_ok, q1, hzc, w1, Sem.run_pure]
                rfl
            · cases hi
        · cases hi
      · simp only [hz, cond_true, Option.some.injEq, Prod.mk.injEq] at hi
        obtain ⟨rfl, rfl⟩ := hi
        have hz := Nat.eq_of_beq_eq_true hz
        subst hz
        refine ⟨_, W, ?_, h, VRel.undef μ, Evolve.refl _ _⟩
        cases hs <;> simp [Builtin.clear_, ht0, run_underlying hu] <;> rfl
    · cases hi
  · cases hi

/-! len -/
def ilen (P : Program) (t : TypeId) (x : Value) : Option Value :=
  match P.underlying t, x with
  | some .string, .string s => some (.int .i64 (Int.ofNat s.size))
  | some (.array n _), _ => some (.int .i64 (Int.ofNat n))
  | some (.slice _), .slice _ n _ => some (.int .i64 (Int.ofNat n))
  | _, _ => none
theorem len_sim {argTypes : Array TypeId} {t ty : TypeId} {x x' v : Value} (hx : VRel μ x x') (ht : argTypes[0]? = some t) (hi : ilen P t x = some v) :
    (Builtin.len_ argTypes ty #[x']).run P W = .ok v W ∧ ∃ n, v = .int .i64 n := by
  unfold ilen at hi
  split at hi
  · rename_i s hu; cases hx; cases hi; exact ⟨by simp [Builtin.len_, ht, run_underlying hu, goInt], _, rfl⟩
  · rename_i n e hu; cases hi; exact ⟨by simp [Builtin.len_, ht, run_underlying hu, goInt], _, rfl⟩
  · rename_i a n c hu
    cases hi
    cases hx <;> exact ⟨by simp [Builtin.len_, ht, run_underlying hu, goInt], _, rfl⟩
  · cases hi

/-! Addresses. -/
def ifieldAddr (P : Program) (s : TypeId) (x : Value) (k : Nat) : Option Value :=
  match P.underlying s, x with
  | some (.struct fields), .pointer (some ⟨b, off, none⟩) =>
    match fields.toList[k]? with
    | some f => match sizeT P f.type with
      | some n => bif Nat.beq n 0 then none else some (.pointer (some ⟨b, off + f.offset, none⟩))
      | none => none
    | none => none
  | _, _ => none
theorem fieldAddr_sim {s : TypeId} {x x' v : Value} {k : Nat} (hx : VRel μ x x') (hi : ifieldAddr P s x k = some v) : ∃ v', (Instr.fieldAt s x' k).run P W = .ok v' W ∧ VRel μ v v' := by
  unfold ifieldAddr at hi
  split at hi
  · rename_i fields b off hu
    cases hx with
    | ptr _ _ T hm =>
      split at hi
      · rename_i f hf
        split at hi
        · rename_i n hn
          cases hz : Nat.beq n 0
          · simp only [hz, cond_false, Option.some.injEq] at hi
            subst hi
            have hnz : ¬ n = 0 := by intro e1; rw [e1] at hz; cases hz
            have hf' : fields[k]? = some f := by rw [← Array.getElem?_toList]; exact hf
            refine ⟨_, ?_, VRel.ptr b (off + f.offset) T hm⟩
            simp [Instr.fieldAt, run_underlying hu, hf', Instr.sureAddr, fieldPlace, run_sizeOf' hn, hnz, add_eq, Nat.add_assoc]
          · simp [hz] at hi
        · cases hi
      · cases hi
  · cases hi

def natOf : Value → Option Nat
  | .int _ (.ofNat k) => some k
  | _ => none
def iindexAddr (P : Program) (t : TypeId) (x ix : Value) : Option Value :=
  match natOf ix, P.underlying t, x with
  | some k, some (.array n e), .pointer (some ⟨b, off, none⟩) =>
    match sizeT P e with
    | some sz => bif Nat.blt k n then some (.pointer (some ⟨b, off + k * sz, none⟩)) else none
    | none => none
  | some k, some (.slice e), .slice (some ⟨b, off, none⟩) n _ =>
    match sizeT P e with
    | some sz => bif Nat.blt k n then some (.pointer (some ⟨b, off + k * sz, none⟩)) else none
    | none => none
  | _, _, _ => none
theorem natOf_eq {v : Value} {k : Nat} (h : natOf v = some k) : ∃ kd, v = .int kd (Int.ofNat k) := by
  unfold natOf at h
  split at h
  · cases h; exact ⟨_, rfl⟩
  · cases h
theorem indexAddr_sim {t : TypeId} {x x' ix ix' v : Value} (hx : VRel μ x x') (hix : VRel μ ix ix') (hi : iindexAddr P t x ix = some v) : ∃ v', (Instr.indexAt t x' ix').run P W = .ok v' W ∧ VRel μ v v' := by
  unfold iindexAddr at hi
  split at hi
  · rename_i k n e b off hk hu
    obtain ⟨kd, rfl⟩ := natOf_eq hk
    cases hix
    cases hx with
    | ptr _ _ T hm =>
      split at hi
      · rename_i sz hsz
        cases hlt : Nat.blt k n
        · simp [hlt] at hi
        · simp only [hlt, cond_true, Option.some.injEq] at hi
          subst hi
          have hlt : k < n := Nat.le_of_ble_eq_true hlt
          refine ⟨_, ?_, VRel.ptr b (off + k * sz) T hm⟩
          have hc : (0 : Int) ≤ Int.ofNat k ∧ Int.ofNat k < (n : Int) := ⟨by simp, by have := Int.ofNat_lt.2 hlt; simpa using this⟩
          simp only [Instr.indexAt, asIntOf, Sem.run_bind, Sem.run_pure, Result.andThen_ok, run_underlying hu, Instr.sureAddr, if_pos hc, run_sizeOf' hsz, add_eq]
          simp [Nat.add_assoc]
      · cases hi
  · rename_i k e b off n c hk hu
    obtain ⟨kd, rfl⟩ := natOf_eq hk
    cases hix
    cases hx with
    | slice _ _ _ _ cap' o' T hm hcr ho =>
      split at hi
      · rename_i sz hsz
        cases hlt : Nat.blt k n
        · simp [hlt] at hi
        · simp only [hlt, cond_true, Option.some.injEq] at hi
          subst hi
          have hlt : k < n := Nat.le_of_ble_eq_true hlt
          have hoo : o' = T.d + off := by
            rcases ho with ho | ⟨h1, _⟩
            · exact ho
            · omega
          subst hoo
          refine ⟨_, ?_, VRel.ptr b (off + k * sz) T hm⟩
          have hc : (0 : Int) ≤ Int.ofNat k ∧ Int.ofNat k < (n : Int) := ⟨by simp, by have := Int.ofNat_lt.2 hlt; simpa using this⟩
          simp only [Instr.indexAt, asIntOf, Sem.run_bind, Sem.run_pure, Result.andThen_ok, run_underlying hu, if_pos hc, run_sizeOf' hsz, add_eq]
          simp [Nat.add_assoc]
      · cases hi
  · cases hi

/-! Parts of aggregates. -/
def ipart (P : Program) (t : TypeId) (cs : List Value) (off : Nat) : Option Value :=
  match P.underlying t, sizeT P t with
  | some d, some n =>
    bif isAggD d then some (.agg ⟨(cs.drop off).take n⟩) else cs[off]?
  | _, _ => none
theorem part_sim {t : TypeId} {cs : List Value} {cs' : Array Value} {off : Nat} {v : Value} (hc : LRel μ cs cs'.toList) (hi : ipart P t cs off = some v) : ∃ v', (part t cs' off).run P W = .ok v' W ∧ VRel μ v v' := by
  unfold ipart at hi
  split at hi
  · rename_i d n hd hn
    cases hagg : isAggD d
    · simp only [hagg, cond_false] at hi
      obtain ⟨v', h1, h2⟩ := hc.get? hi
      refine ⟨v', ?_, h2⟩
      rw [Array.getElem?_toList] at h1
      simp [part, run_isAgg' hd, hagg, h1]
    · simp only [hagg, cond_true, Option.some.injEq] at hi
      subst hi
      refine ⟨.agg (cs'.extract off (off + n)), ?_, VRel.agg_iff.2 ⟨_, rfl, ?_⟩⟩
      · simp [part, run_isAgg' hd, hagg, run_sizeOf' hn]
      · rw [Array.toList_extract, List.extract_eq_take_drop]
        have : off + n - off = n := by omega
        rw [this]
        exact (hc.drop off).take n
  · cases hi
def ifield (P : Program) (t : TypeId) (x : Value) (k : Nat) : Option Value :=
  match P.underlying t, x with
  | some (.struct fields), .agg cs => match fields.toList[k]? with
    | some f => ipart P f.type cs.toList f.offset
    | none => none
  | _, _ => none
theorem field_sim {t : TypeId} {x x' v : Value} {k : Nat} (hx : VRel μ x x') (hi : ifield P t x k = some v) : ∃ v', (Instr.field t x' k).run P W = .ok v' W ∧ VRel μ v v' := by
  unfold ifield at hi
  split at hi
  · rename_i fields cs hu
    obtain ⟨cs', rfl, hl⟩ := VRel.agg_iff.1 hx
    split at hi
    · rename_i f hf
      have hf' : fields[k]? = some f := by rw [← Array.getElem?_toList]; exact hf
      obtain ⟨v', h1, h2⟩ := part_sim (P := P) (W := W) hl hi
      refine ⟨v', ?_, h2⟩
      simp [Instr.field, run_underlying hu, hf', asAgg, h1]
    · cases hi
  · cases hi
def iindex (P : Program) (t : TypeId) (x ix : Value) : Option Value :=
  match natOf ix, P.underlying t, x with
  | some k, some (.array n e), .agg cs =>
    match sizeT P e with
    | some sz => bif Nat.blt k n then ipart P e cs.toList (k * sz) else none
    | none => none
  | some k, some .string, .string s =>
    match s.data.toList[k]? with
    | some b => some (.int .u8 b.toNat)
    | none => none
  | _, _, _ => none
theorem index_sim {t : TypeId} {x x' ix ix' v : Value} (hx : VRel μ x x') (hix : VRel μ ix ix') (hi : iindex P t x ix = some v) : ∃ v', (Instr.index t x' ix').run P W = .ok v' W ∧ VRel μ v v' := by
  unfold iindex at hi
  split at hi
  · rename_i k n e cs hk hu
    obtain ⟨kd, rfl⟩ := natOf_eq hk
    cases hix
    obtain ⟨cs', rfl, hl⟩ := VRel.agg_iff.1 hx
    split at hi
    · rename_i sz hsz
      cases hlt : Nat.blt k n
      · simp [hlt] at hi
      · simp only [hlt, cond_true] at hi
        have hlt : k < n := Nat.le_of_ble_eq_true hlt
        obtain ⟨v', h1, h2⟩ := part_sim (P := P) (W := W) hl hi
        refine ⟨v', ?_, h2⟩
        have hc : (0 : Int) ≤ Int.ofNat k ∧ Int.ofNat k < (n : Int) := ⟨by simp, by have := Int.ofNat_lt.2 hlt; simpa using this⟩
        simp only [Instr.index, asIntOf, Sem.run_bind, Sem.run_pure, Result.andThen_ok, run_underlying hu, if_pos hc, run_sizeOf' hsz]
        exact h1
    · cases hi
  · rename_i k s hk hu
    obtain ⟨kd, rfl⟩ := natOf_eq hk
    cases hix; cases hx
    split at hi
    · rename_i b hb
      cases hi
      refine ⟨_, ?_, .int _ _⟩
      rw [Array.getElem?_toList] at hb
      have hlt : k < s.size := by
        have := (Array.getElem?_eq_some_iff.1 hb).1
        exact this
      have hb' : s[k]? = some b := by
        rw [getElem?_pos s k hlt]
        have := (Array.getElem?_eq_some_iff.1 hb).2
        rw [← this]; rfl
      simp [Instr.index, asIntOf, run_underlying hu, hb']
    · cases hi
  · cases hi

end
end Go.Ideal
