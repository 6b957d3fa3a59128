/-
  Part of the proof: the machine that runs a program by fixed orders, and that each of its runs is a run of the model; or a run of it in parts. No conditions.
-/
import Derived.Test.YtjaogllgillaiaaGreatDoorIdOps6
namespace Go.Ideal
section
variable {P : Program} {base : Env} {W0 : World} {μ : Inj} {H : IHeap} {W : World}

/-! Maps whose keys are numbers, strings or bools. -/
def keyKind : Option TypeDesc → Bool
  | some (.int _) | some .string | some .bool => true
  | _ => false
def setVal (k v : Value) : Nat → List MapEntry → List MapEntry
  | _, [] => []
  | 0, e :: r => { e with key := k, val := v } :: r
  | n + 1, e :: r => e :: setVal k v n r

noncomputable def imakeMap (x : Option Value) (H : IHeap) : Option (Value × IHeap) :=
  match x with
  | none => some (.map (some H.next), H.alloc (.map [] 0))
  | some _ => none
noncomputable def imapUpdate (P : Program) (t : TypeId) (m k v : Value) (H : IHeap) : Option IHeap :=
  match P.underlying t, m with
  | some (.map kt _), .map (some r) =>
    match H.get r with
    | some (.map es clock) =>
      match P.underlying kt with
      | some kd => bif keyKind (some kd) && flat k then
          match Instr.findNow kd k es 0 with
          | some (some (i, _)) => some (H.put r (.map (setVal k v i es) clock))
          | some none => some (H.put r (.map (es ++ [{ key := k, val := v, born := clock }]) (clock + 1)))
          | none => none
        else none
      | none => none
    | _ => none
  | _, _ => none
noncomputable def ilookup (P : Program) (t : TypeId) (m k : Value) (ok : Bool) (H : IHeap) : Option Value :=
  match P.underlying t, m with
  | some (.map kt et), .map (some r) =>
    match H.get r with
    | some (.map es _) =>
      match P.underlying kt with
      | some kd => bif keyKind (some kd) && flat k then
          match Instr.findNow kd k es 0 with
          | some (some (_, v)) => some (bif ok then .tuple ⟨[v, .bool true]⟩ else v)
          | some none => match P.info? et with
            | some i => match i.zero with
              | some z => bif flat z then some (bif ok then .tuple ⟨[z, .bool false]⟩ else z) else none
              | none => none
            | none => none
          | none => none
        else none
      | none => none
    | _ => none
  | _, _ => none

def itypeAssert (P : Program) (x : Value) (at' : TypeId) (ok : Bool) : Option Value :=
  match P.underlying at', x with
  | some (.interface _), _ => none
  | some _, .iface t v => bif Nat.beq t at' then some (bif ok then .tuple ⟨[v, .bool true]⟩ else v) else
      bif ok then match P.info? at' with
        | some i => match i.zero with
          | some z => bif flat z then some (.tuple ⟨[z, .bool false]⟩) else none
          | none => none
        | none => none
      else none
  | _, _ => none
theorem sameNow_rel {kd : TypeDesc} {k a a' : Value} (h : VRel μ a a') {b : Bool} (hs : Instr.sameNow kd k a = some b) : a' = a := by
  unfold Instr.sameNow at hs
  split at hs <;> first | (cases h; rfl) | cases hs
theorem findNow_rel {kd : TypeDesc} {k : Value} : ∀ {es es' : List MapEntry} (_ : EntsRel μ es es') (i : Nat),
    (∀ j v, Instr.findNow kd k es i = some (some (j, v)) → ∃ v', Instr.findNow kd k es' i = some (some (j, v')) ∧ VRel μ v v') ∧
    (Instr.findNow kd k es i = some none → Instr.findNow kd k es' i = some none) := by
  intro es es' h
  induction h with
  | nil => intro i; exact ⟨(fun j v h => by cases h), fun h => h⟩
  | @cons e e' l l' hk hv hb _ ih =>
    intro i
    cases hs : Instr.sameNow kd k e.key with
    | none => exact ⟨(fun j v h => by simp [Instr.findNow, hs] at h), (fun h => by simp [Instr.findNow, hs] at h)⟩
    | some b =>
      have he := sameNow_rel hk hs
      have hs' : Instr.sameNow kd k e'.key = some b := by rw [he]; exact hs
      cases b with
      | true =>
        refine ⟨fun j v h => ?_, (fun h => by simp [Instr.findNow, hs] at h)⟩
        simp only [Instr.findNow, hs, Option.some.injEq, Prod.mk.injEq] at h
        obtain ⟨rfl, rfl⟩ := h
        exact ⟨e'.val, by simp [Instr.findNow, hs'], hv⟩
      | false =>
        simp only [Instr.findNow, hs, hs']
        exact ih (i + 1)
theorem run_checkKey {t : TypeId} {kd : TypeDesc} (hu : P.underlying t = some kd) (hk : keyKind (some kd) = true) (b : Bool) (n : Nat) (v : Value) (w : World) : (Instr.checkKey b (n + 1) t v).run P w = .ok () w := by
  cases kd <;> first | (cases hk; done) | simp [Instr.checkKey, run_underlying hu]
theorem run_findKey {t : TypeId} {kd : TypeDesc} (hu : P.underlying t = some kd) {k : Value} {es : List MapEntry} {r : Option (Nat × Value)} (h : Instr.findNow kd k es 0 = some r) (w : World) : (Instr.findKey t k es).run P w = .ok r w := by
  simp [Instr.findKey, run_underlying hu, h]
theorem lookup_sim (h : HRel base W0 μ H W) {t : TypeId} {m m' k k' v : Value} {ok : Bool} (hm : VRel μ m m') (hk : VRel μ k k') (hi : ilookup P t m k ok H = some v) : ∃ v', (Instr.lookup t m' k' ok).run P W = .ok v' W ∧ VRel μ v v' := by
  unfold ilookup at hi
  split at hi
  · rename_i kt et r hu
    split at hi
    · rename_i es clock hget
      split at hi
      · rename_i kd hkd
        cases hc : (keyKind (some kd) && flat k)
        · simp only [hc, cond_false] at hi; cases hi
        · simp only [hc, cond_true] at hi
          simp only [Bool.and_eq_true] at hc
          have hke := flat_eq hc.2 hk
          subst hke
          cases hm with
          | map _ T hT =>
            obtain ⟨o', ho', hor⟩ := h.obj r _ hget T hT
            cases hor with
            | map _ es' _ he =>
              have hg : (getObj T.c).run P W = .ok (.map es' clock) W := run_getObj' ho' (by intro c t f; simp)
              have hck : ∀ b, (Instr.checkKey b 10000 kt k').run P W = .ok () W := fun b => run_checkKey hkd hc.1 b 9999 k' W
              split at hi
              · rename_i i v0 hf
                obtain ⟨v', e1, e2⟩ := (findNow_rel he 0).1 _ _ hf
                cases hi
                cases ok with
                | true => exact ⟨.tuple #[v', .bool true], by simp [Instr.lookup, run_underlying hu, hg, hck, run_findKey hkd e1], VRel.tuple_iff.2 ⟨_, rfl, .cons e2 (.cons (.bool _) .nil)⟩⟩
                | false => exact ⟨v', by simp [Instr.lookup, run_underlying hu, hg, hck, run_findKey hkd e1], e2⟩
              · rename_i hf
                have e1 := (findNow_rel he 0).2 hf
                split at hi
                · rename_i ie hie
                  split at hi
                  · rename_i z hz
                    cases hfz : flat z
                    · simp [hfz] at hi
                    · simp only [hfz, cond_true, Option.some.injEq] at hi
                      subst hi
                      cases ok with
                      | true => exact ⟨.tuple #[z, .bool false], by simp [Instr.lookup, run_underlying hu, hg, hck, run_findKey hkd e1, zeroValue, typeInfo, hie, hz], VRel.tuple_iff.2 ⟨_, rfl, .cons (flat_refl hfz) (.cons (.bool _) .nil)⟩⟩
                      | false => exact ⟨z, by simp [Instr.lookup, run_underlying hu, hg, hck, run_findKey hkd e1, zeroValue, typeInfo, hie, hz], flat_refl hfz⟩
                  · cases hi
                · cases hi
              · cases hi
      · cases hi
    · cases hi
  · cases hi

theorem setVal_rel {k v k' v' : Value} (hk : VRel μ k k') (hv : VRel μ v v') : ∀ {es es' : List MapEntry} (_ : EntsRel μ es es') (i : Nat), EntsRel μ (setVal k v i es) (setVal k' v' i es') := by
  intro es es' h
  induction h with
  | nil => intro i; cases i <;> exact .nil
  | cons h1 h2 h3 ht ih =>
    intro i
    cases i with
    | zero => exact .cons hk hv h3 ht
    | succ i => exact .cons h1 h2 h3 (ih i)
theorem setVal_modify (k v : Value) : ∀ (es : List MapEntry) (i : Nat), es.modify i (fun e => { e with key := k, val := v }) = setVal k v i es
  | [], i => by cases i <;> rfl
  | e :: r, 0 => rfl
  | e :: r, i + 1 => by simp only [setVal, List.modify_succ_cons, setVal_modify k v r i]
theorem EntsRel.snoc {es es' : List MapEntry} (h : EntsRel μ es es') {e e' : MapEntry} (hk : VRel μ e.key e'.key) (hv : VRel μ e.val e'.val) (hb : e.born = e'.born) : EntsRel μ (es ++ [e]) (es' ++ [e']) := by
  induction h with
  | nil => exact .cons hk hv hb .nil
  | cons h1 h2 h3 _ ih => exact .cons h1 h2 h3 ih
theorem ba_eq {a b : ByteArray} (h : (a == b) = true) : a = b := by
  obtain ⟨a⟩ := a; obtain ⟨b⟩ := b
  have : (a == b) = true := h
  rw [eq_of_beq this]
theorem ba_refl (a : ByteArray) : (a == a) = true := by
  obtain ⟨a⟩ := a
  show (a == a) = true
  exact beq_self_eq_true a
theorem findNow_key {kd : TypeDesc} (hkk : keyKind (some kd) = true) {k : Value} : ∀ {es : List MapEntry} {i j : Nat} {v : Value}, Instr.findNow kd k es i = some (some (j, v)) → ∃ e, es[j - i]? = some e ∧ i ≤ j ∧ Instr.sameBits 10000 e.key k = true := by
  intro es
  induction es with
  | nil => intro i j v h; cases h
  | cons e es ih =>
    intro i j v h
    cases hs : Instr.sameNow kd k e.key with
    | none => simp [Instr.findNow, hs] at h
    | some b =>
      cases b with
      | true =>
        simp only [Instr.findNow, hs, Option.some.injEq, Prod.mk.injEq] at h
        obtain ⟨rfl, rfl⟩ := h
        refine ⟨e, by simp, Nat.le_refl _, ?_⟩
        unfold Instr.sameNow at hs
        split at hs
        · rename_i a b' heq
          split at hs
          · rename_i hkk2
            simp only [Option.some.injEq] at hs
            simp only [heq]
            simp [Instr.sameBits, hkk2, eq_of_beq hs]
          · cases hs
        · rename_i heq
          simp only [Option.some.injEq] at hs
          simp only [heq]
          simp only [Instr.sameBits, ba_eq hs, ba_refl]
        · rename_i heq
          simp only [Option.some.injEq] at hs
          simp only [heq]
          simp [Instr.sameBits, eq_of_beq hs]
        · cases hs
      | false =>
        simp only [Instr.findNow, hs] at h
        obtain ⟨e2, h1, h2, h3⟩ := ih h
        refine ⟨e2, ?_, by omega, h3⟩
        rw [show j - i = (j - (i + 1)) + 1 by omega]; simpa using h1
theorem mapUpdate_sim (h : HRel base W0 μ H W) {t : TypeId} {m m' k k' v v' : Value} {H' : IHeap} (hm : VRel μ m m') (hk : VRel μ k k') (hv : VRel μ v v') (hi : imapUpdate P t m k v H = some H') :
    ∃ W', (Instr.mapUpdate t m' k' v').run P W = .ok () W' ∧ HRel base W0 μ H' W' ∧ Evolve μ H μ H' := by
  unfold imapUpdate at hi
  split at hi
  · rename_i kt et r hu
    split at hi
    · rename_i es clock hget
      split at hi
      · rename_i kd hkd
        cases hc : (keyKind (some kd) && flat k)
        · simp only [hc, cond_false] at hi; cases hi
        · simp only [hc, cond_true] at hi
          simp only [Bool.and_eq_true] at hc
          have hke := flat_eq hc.2 hk
          subst hke
          cases hm with
          | map _ T hT =>
            obtain ⟨o', ho', hor⟩ := h.obj r _ hget T hT
            cases hor with
            | map _ es' _ he =>
              have hg : (getObj T.c).run P W = .ok (.map es' clock) W := run_getObj' ho' (by intro c t f; simp)
              have hck : ∀ b, (Instr.checkKey b 10000 kt k').run P W = .ok () W := fun b => run_checkKey hkd hc.1 b 9999 k' W
              split at hi
              · rename_i i v0 hf
                obtain ⟨v1, e1, e2⟩ := (findNow_rel he 0).1 _ _ hf
                cases hi
                obtain ⟨ent, h1, _, h3⟩ := findNow_key hc.1 e1
                have hent : es'[i]? = some ent := by rw [← Array.getElem?_toList]; simpa using h1
                obtain ⟨g1, g2⟩ := h.setObj (o1 := .map (setVal k' v i es) clock) (o1' := .map (es'.modify i fun e => { e with key := k', val := v' }) clock) hget rfl hT (.map T _ _ clock (by
                  rw [Array.toList_modify, setVal_modify]; exact setVal_rel hk hv he i))
                refine ⟨_, ?_, g1, g2⟩
                simp [Instr.mapUpdate, run_underlying hu, hg, hck, run_findKey hkd e1, hent, Instr.keyThatStays, h3, run_setObj' (P := P) ho' (by intro c t f; simp)]
              · rename_i hf
                have e1 := (findNow_rel he 0).2 hf
                cases hi
                obtain ⟨g1, g2⟩ := h.setObj (o1 := .map (es ++ [{ key := k', val := v, born := clock }]) (clock + 1)) (o1' := .map (es'.push { key := k', val := v', born := clock }) (clock + 1)) hget rfl hT (.map T _ _ (clock + 1) (by
                  rw [Array.toList_push]; exact he.snoc hk hv rfl))
                refine ⟨_, ?_, g1, g2⟩
                simp [Instr.mapUpdate, run_underlying hu, hg, hck, run_findKey hkd e1, run_setObj' (P := P) ho' (by intro c t f; simp)]
              · cases hi
      · cases hi
    · cases hi
  · cases hi
theorem typeAssert_sim {x x' v : Value} {xt at' : TypeId} {ok : Bool} (hx : VRel μ x x') (hi : itypeAssert P x at' ok = some v) : ∃ v', (Instr.typeAssert x' xt at' ok).run P W = .ok v' W ∧ VRel μ v v' := by
  unfold itypeAssert at hi
  split at hi
  · cases hi
  · rename_i d t0 v0 hni hu
    have hne : ∀ ms, d ≠ .interface ms := fun ms e => hni ms e
    cases hx with
    | iface _ _ v1 hv =>
      cases hb : Nat.beq t0 at'
      · simp only [hb, cond_false] at hi
        have hn : ¬ t0 = at' := by intro e; subst e; rw [Nat.beq_refl] at hb; cases hb
        cases ok with
        | false => cases hi
        | true =>
          simp only [cond_true] at hi
          split at hi
          · rename_i i hie
            split at hi
            · rename_i z hz
              cases hf : flat z
              · simp [hf] at hi
              · simp only [hf, cond_true, Option.some.injEq] at hi
                subst hi
                refine ⟨.tuple #[z, .bool false], ?_, VRel.tuple_iff.2 ⟨_, rfl, .cons (flat_refl hf) (.cons (.bool _) .nil)⟩⟩
                cases d <;> first | exact absurd rfl (hne _) | simp [Instr.typeAssert, run_underlying hu, hn, zeroValue, typeInfo, hie, hz]
            · cases hi
          · cases hi
      · simp only [hb, cond_true, Option.some.injEq] at hi
        have he := Nat.eq_of_beq_eq_true hb
        subst he
        subst hi
        cases ok with
        | true =>
          refine ⟨.tuple #[v1, .bool true], ?_, VRel.tuple_iff.2 ⟨_, rfl, .cons hv (.cons (.bool _) .nil)⟩⟩
          cases d <;> first | exact absurd rfl (hne _) | simp [Instr.typeAssert, run_underlying hu]
        | false =>
          refine ⟨v1, ?_, hv⟩
          cases d <;> first | exact absurd rfl (hne _) | simp [Instr.typeAssert, run_underlying hu]
  · cases hi
end
end Go.Ideal
