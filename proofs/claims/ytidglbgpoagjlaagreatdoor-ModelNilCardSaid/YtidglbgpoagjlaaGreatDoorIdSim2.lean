/-
  Part of the proof: the machine that runs a program by fixed orders, and that each of its runs is a run of the model; or a run of it in parts. No conditions.
-/
import Derived.Test.YtidglbgpoagjlaaGreatDoorIdFlush
namespace Go.Ideal
section
variable {X : Ctx} {base : Env} {W0 : World} {μ : Inj} {H : IHeap} {W : World}

/-! Entering. -/
theorem replicate_getD (n i : Nat) : (Array.replicate n Go.undef).getD i Go.undef = Go.undef := by
  rw [Array.getD_eq_getD_getElem?, Array.getElem?_replicate]; split <;> rfl
theorem fill_get : ∀ (args : List Value) (i0 : Nat) (t : Tr Value) (j : Nat), (fillTmps i0 args t).get j = if i0 ≤ j ∧ j < i0 + args.length then args[j - i0]? else t.get j := by
  intro args
  induction args with
  | nil => intro i0 t j; simp [fillTmps]; omega
  | cons v r ih =>
    intro i0 t j
    simp only [fillTmps]
    rw [ih, Tr.get_put]
    by_cases h1 : j = i0
    · subst h1
      rw [if_neg (by omega), if_pos rfl, if_pos (by simp)]
      simp
    · by_cases h2 : i0 + 1 ≤ j ∧ j < i0 + 1 + r.length
      · rw [if_pos h2, if_pos (by simp; omega)]
        obtain ⟨q, rfl⟩ : ∃ q, j = i0 + 1 + q := ⟨j - (i0 + 1), by omega⟩
        have e1 : i0 + 1 + q - (i0 + 1) = q := by omega
        have e2 : i0 + 1 + q - i0 = q + 1 := by omega
        rw [e1, e2, List.getElem?_cons_succ]
      · rw [if_neg h2, if_neg h1, if_neg (by simp; omega)]
theorem enter_rel {args : List Value} {args' : Array Value} {n : Nat} (ha : LRel μ args args'.toList) (hn : args.length ≤ n) : TRel μ (fillTmps 0 args .leaf) n (args' ++ Array.replicate (n - args'.size) Go.undef) := by
  have hl : args.length = args'.size := by have := ha.length; simpa using this
  refine ⟨by simp; omega, fun i => ?_⟩
  unfold look
  rw [fill_get]
  by_cases hi : i < args.length
  · rw [if_pos ⟨Nat.zero_le _, by omega⟩]
    obtain ⟨v', h1, h2⟩ := ha.get? (List.getElem?_eq_getElem hi)
    rw [Array.getElem?_toList] at h1
    have : (args' ++ Array.replicate (n - args'.size) Go.undef).getD i Go.undef = v' := by
      rw [Array.getD_eq_getD_getElem?, Array.getElem?_append_left (by omega), h1]; rfl
    rw [this]
    simp only [Nat.sub_zero, List.getElem?_eq_getElem hi, Option.getD_some]
    exact h2
  · rw [if_neg (by omega), Tr.get_leaf]
    have : (args' ++ Array.replicate (n - args'.size) Go.undef).getD i Go.undef = Go.undef := by
      rw [Array.getD_eq_getD_getElem?, Array.getElem?_append_right (by omega), Array.getElem?_replicate]; split <;> rfl
    rw [this]
    exact VRel.junk _

theorem entry_eq {P : Program} {f : FuncId} {n : Nat} {c : Code} (h : entry P f = some (n, c)) : ∃ fn, P.funcs[f]? = some fn ∧ fn.body = some c ∧ fn.ntmps = n ∧ (fn.name == "runtime.NumGoroutine") = false := by
  unfold entry at h
  split at h
  · rename_i fn hf
    split at h
    · rename_i b hb
      cases hn : (fn.name == "runtime.NumGoroutine")
      · rw [hn] at h; cases h; exact ⟨fn, hf, hb, rfl, hn⟩
      · rw [hn] at h; cases h
    · cases h
  · cases h
theorem run_callFunc {P : Program} {f : FuncId} {n : Nat} {c : Code} (h : entry P f = some (n, c)) (args : Array Value) (w : World) : (callFunc f args).run P w = .ok (.enter f args) w := by
  obtain ⟨fn, h1, h2, h3, h4⟩ := entry_eq h
  have h5 : ¬ fn.name = "runtime.NumGoroutine" := by simpa using h4
  simp [callFunc, h1, h2, h5]
theorem enter_eq {P : Program} {f : FuncId} {n : Nat} {c : Code} (h : entry P f = some (n, c)) (args : Array Value) (kind : CallKind) :
    Frame.enter P f args kind = ⟨f, args ++ Array.replicate (n - args.size) Go.undef, [.code c], [], .run, kind, none⟩ := by
  obtain ⟨fn, h1, h2, h3, h4⟩ := entry_eq h
  simp [Frame.enter, h1, h2, h3]

/-- What is demanded of a function that is taken by its contract. -/
def IntrOk (X : Ctx) (base : Env) (W0 : World) : Prop := ∀ f F, X.intr f = some F → (∃ n c, entry X.P f = some (n, c)) ∧ ∀ μ H W (args : List Value) (args' : Array Value) v H', HRel base W0 μ H W → LaidRel X μ → LRel μ args args'.toList → F args H = some (v, H') →
  Calls X.P f args' W fun e W' => ∃ v' μ', e = .returned v' ∧ HRel base W0 μ' H' W' ∧ VRel μ' v v' ∧ Evolve μ H μ' H'

theorem flats_eq : ∀ (l l' : List Value), l.all flat = true → LRel μ l l' → l' = l
  | [], _, _, h => by cases h; rfl
  | a :: l, _, hf, h => by
    simp only [List.all_cons, Bool.and_eq_true] at hf
    cases h with
    | cons h1 h2 => rw [flat_eq hf.1 h1, flats_eq l _ hf.2 h2]

/-- A call that the machine makes with one step: the frame waits. -/
theorem enterI_sim (hok : IntrOk X base W0) {g gs : List Nat} {fr : IFrame} {cs : List IFrame} {fr' : Frame} {cs' cs0 : List Frame} {f : FuncId} {args : List Value} {args' : Array Value} {c' : Cfg} {m : Machine}
    (hH : HRel base W0 μ H W) (hlaid : LaidRel X μ) (hfr : FRel X μ H g fr fr') (hcs : FsRel X μ H gs cs cs') (hnd : (g ++ gs).Nodup) (ha : LRel μ args args'.toList)
    (hm : ∀ n c, entry X.P f = some (n, c) → Steps X.P m (lone (Frame.enter X.P f args' .normal) (fr' :: (cs' ++ cs0)) W))
    (hmv : ∀ v, (callFunc f args').run X.P W = .ok (.value v) W → Steps X.P m (lone (fr'.finish v) (cs' ++ cs0) W)) (hi : enterI X f args .normal fr cs H = some c') :
    StepSim X base W0 cs0 c' m := by
  unfold enterI at hi
  cases hin : X.intr f with
  | none =>
    simp only [hin] at hi
    split at hi
    · rename_i n c he
      cases hle : Nat.ble args.length n
      · simp [hle] at hi
      · simp only [hle, cond_true, Option.some.injEq] at hi
        subst hi
        refine ⟨μ, _, fr' :: cs', W, hm n c he, hH, hlaid, [], g ++ gs, ?_, .cons hfr hcs, hnd⟩
        rw [enter_eq he]
        exact .plain f _ n _ _ _ [] [] false .normal none none (enter_rel ha (Nat.le_of_ble_eq_true hle)) (.cons (.code c) .nil) .nil .none
    · cases hf : args.all flat
      · simp only [hf, cond_false] at hi; cases hi
      · simp only [hf, cond_true] at hi
        split at hi
        · rename_i v hp
          cases hfv : flat v
          · simp only [hfv, cond_false] at hi; cases hi
          · simp only [hfv, cond_true] at hi
            split at hi
            · rename_i fr1 hfin
              cases hi
              have he : args' = ⟨args⟩ := by rw [← Array.toList_inj]; exact flats_eq args _ hf ha
              have hrun : (callFunc f args').run X.P W = .ok (.value v) W := by rw [he]; exact pureRun_run hp W
              exact ⟨μ, _, cs', W, hmv v hrun, hH, hlaid, g, gs, finish_rel hfr (flat_refl hfv) hfin, hcs, hnd⟩
            · cases hi
        · cases hi
  | some F =>
    simp only [hin] at hi
    split at hi
    · rename_i v H' hF
      split at hi
      · rename_i fr1 hfin
        cases hi
        obtain ⟨⟨n, c, he⟩, hc⟩ := hok f F hin
        obtain ⟨e, w', fx, ⟨v', μ', rfl, h1, h2, h3⟩, hcomes, hfn, hleave⟩ := hc μ H W args args' v H' hH hlaid ha hF (fr' :: (cs' ++ cs0))
        exact ⟨μ', fr'.finish v', cs', w', (hm n c he).trans (Steps.trans hcomes (.one (step_leave_returned hleave))), h1, hlaid.mono h3.le, g, gs, finish_rel (hfr.mono (h3.keeps g)) h2 hfin, hcs.mono (h3.keeps gs), hnd⟩
      · cases hi
    · cases hi

theorem setParams_rel : ∀ (ps : List Tmp) (vs vs' : List Value) (t : Tr Value) (n : Nat) (a : Array Value), TRel μ t n a → LRel μ vs vs' → ps.all (fun p => Nat.blt p n) = true →
    TRel μ (setParams ps vs t) n ((ps.zip vs').foldl (fun (tm : Array Value) (x : Tmp × Value) => tm.setIfInBounds x.1 x.2) a) := by
  intro ps
  induction ps with
  | nil => intro vs vs' t n a ht _ _; simpa [setParams] using ht
  | cons p ps ih =>
    intro vs vs' t n a ht hv hp
    simp only [List.all_cons, Bool.and_eq_true] at hp
    cases hv with
    | nil => simpa [setParams] using ht
    | cons h1 h2 =>
      simp only [setParams, List.zip_cons_cons, List.foldl_cons]
      exact ih _ _ _ n _ (ht.put (Nat.le_of_ble_eq_true hp.1) h1) h2 hp.2

theorem yieldI_sim {g gs : List Nat} {fr : IFrame} {cs : List IFrame} {fr' : Frame} {cs' cs0 : List Frame} {l : Nat} {T : Tgt} {args : List Value} {args' : Array Value} {c' : Cfg} {m : Machine}
    (hH : HRel base W0 μ H W) (hlaid : LaidRel X μ) (hfr : FRel X μ H g fr fr') (hcs : FsRel X μ H gs cs cs') (hnd : (g ++ gs).Nodup) (ha : LRel μ args args'.toList) (hl : μ l = some T)
    (hm : ∀ f t a b, (Instr.yield T.c args').run X.P W = .ok (.round T.c f t a b) W → Steps X.P m (lone (Frame.round T.c f t a b .normal) (fr' :: (cs' ++ cs0)) W)) (hi : yieldI l args fr cs H = some c') :
    StepSim X base W0 cs0 c' m := by
  unfold yieldI at hi
  split at hi
  · rename_i r hget
    cases hc : (Nat.beq args.length r.params.size && r.params.toList.all (fun p => Nat.blt p r.n))
    · simp only [hc, cond_false] at hi; cases hi
    · simp only [hc, cond_true, Option.some.injEq] at hi
      subst hi
      simp only [Bool.and_eq_true] at hc
      have hlen := Nat.eq_of_beq_eq_true hc.1
      obtain ⟨o', ho', hor⟩ := hH.obj l _ hget T hl
      cases hor with
      | loop _ a R ht hd =>
        have hsz : args'.size = r.params.size := by
          have : args.length = args'.size := by simpa using ha.length
          omega
        have hrun : (Instr.yield T.c args').run X.P W = .ok (.round T.c r.fn ((r.params.zip args').foldl (fun tmps (t, a) => tmps.setIfInBounds t a) a) r.assign r.body) W := by
          simp [Instr.yield, run_getLoop (P := X.P) ho', hsz]
        refine ⟨μ, _, fr' :: cs', W, hm _ _ _ _ hrun, hH, hlaid, [], g ++ gs, ?_, .cons hfr hcs, hnd⟩
        have := setParams_rel r.params.toList args args'.toList r.tmps r.n a ht ha hc.2
        refine .plain r.fn _ r.n _ _ _ [] [] false .normal (some l) (some T.c) ?_ (.cons (.code _) (.cons .beginRound (.cons (.code _) .nil))) .nil (.some l T hl)
        rw [← Array.foldl_toList, Array.toList_zip]
        exact this
  · cases hi

end
end Go.Ideal
