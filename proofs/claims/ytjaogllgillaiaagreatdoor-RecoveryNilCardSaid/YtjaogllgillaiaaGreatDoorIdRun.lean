/-
  Part of the proof: the machine that runs a program by fixed orders, and that each of its runs is a run of the model; or a run of it in parts. No conditions.
-/
import Derived.Test.YtjaogllgillaiaaGreatDoorIdStep
namespace Go.Ideal
section
variable {X : Ctx} {base : Env} {W0 : World} {μ : Inj} {H : IHeap} {W : World}

theorem runI_succ (n : Nat) (c : Cfg) : runI X (n + 1) c = match stepI X c with
    | some c' => runI X n c'
    | none => none := rfl

theorem run_sim (hok : IntrOk X base W0) (hplan : PlanOk X) {cs0 : List Frame} : ∀ (n : Nat) (c c' : Cfg) (μ : Inj) (fr : Frame) (cs : List Frame) (W : World), runI X n c = some c' → MRel X base W0 μ c fr cs W →
    ∃ μ' fr1 cs1 W1, Steps X.P (lone fr (cs ++ cs0) W) (lone fr1 (cs1 ++ cs0) W1) ∧ MRel X base W0 μ' c' fr1 cs1 W1 := by
  intro n
  induction n with
  | zero => intro c c' μ fr cs W h hm; cases h; exact ⟨μ, fr, cs, W, .refl _ _, hm⟩
  | succ n ih =>
    intro c c' μ fr cs W h hm
    rw [runI_succ] at h
    split at h
    · rename_i c1 hs
      obtain ⟨μ1, fr1, cs1, W1, s1, m1⟩ := step_sim (cs0 := cs0) hok hplan hm hs
      obtain ⟨μ2, fr2, cs2, W2, s2, m2⟩ := ih c1 c' μ1 fr1 cs1 W1 h m1
      exact ⟨μ2, fr2, cs2, W2, s1.trans s2, m2⟩
    · cases h

theorem runI_add (a b : Nat) : ∀ (c c1 : Cfg), runI X a c = some c1 → runI X (a + b) c = runI X b c1 := by
  induction a with
  | zero => intro c c1 h; cases h; rw [Nat.zero_add]
  | succ a ih =>
    intro c c1 h
    rw [runI_succ] at h
    rw [show a + 1 + b = (a + b) + 1 by omega, runI_succ]
    split at h
    · rename_i c2 hs
      exact ih c2 c1 h
    · cases h

/-- The last frame is to return: what it returns. -/
noncomputable def doneF (X : Ctx) (f : FuncId) (c : Cfg) : Option (Value × IHeap) :=
  match c with
  | ⟨⟨fn, t, _, todo, ds, r, kd, _⟩, cs, H⟩ =>
    match cs, ds, r, kd, todo with
    | [], [], true, .normal, _ => bif Nat.beq fn f then
        match resultsI X fn t H with
        | some v => some (v, H)
        | none => none
      else none
    | _, _, _, _, _ => none

def startC (f : FuncId) (t : Tr Value) (n : Nat) (code : Code) (H : IHeap) : Cfg := ⟨⟨f, t, n, [.code code], [], false, .normal, none⟩, [], H⟩

theorem start_rel (hH : HRel base W0 μ H W) (hlaid : LaidRel X μ) {f : FuncId} {n : Nat} {code : Code} (he : entry X.P f = some (n, code)) {args : List Value} {args' : Array Value} (ha : LRel μ args args'.toList) (hn : args.length ≤ n) :
    MRel X base W0 μ (startC f (fillTmps 0 args .leaf) n code H) (Frame.enter X.P f args' .normal) [] W := by
  refine ⟨hH, hlaid, [], [], ?_, .nil, by simp⟩
  rw [enter_eq he]
  exact .plain f _ n _ _ _ [] [] false .normal none none (enter_rel ha hn) (.cons (.code code) .nil) .nil .none

theorem done_rel {f : FuncId} {c : Cfg} {fr : Frame} {cs : List Frame} {v : Value} {H' : IHeap} (hm : MRel X base W0 μ c fr cs W) (hd : doneF X f c = some (v, H')) :
    cs = [] ∧ fr.fn = f ∧ ∃ v', fr.leaving X.P W (.returned v') ∧ HRel base W0 μ H' W ∧ VRel μ v v' := by
  obtain ⟨hH, hlaid, g, gs, hfr, hcs, hnd⟩ := hm
  unfold doneF at hd
  obtain ⟨⟨fn, t, n, todo, ds, r, kd, rd⟩, cs1, H1⟩ := c
  simp only at hd hfr hcs hH
  split at hd
  · rename_i x1 x2 x3 x4 x5
    cases hcs
    cases hb : Nat.beq fn f
    · simp [hb] at hd
    · simp only [hb, cond_true] at hd
      have hf := Nat.eq_of_beq_eq_true hb
      split at hd
      · rename_i v0 hres
        cases hd
        cases hfr with
        | plain _ _ _ tm _ todo' _ ds' _ _ _ rd' ht hi hdd hr =>
          cases hdd
          obtain ⟨fn', v', h1, h2, h3⟩ := results_sim hH ht hres
          exact ⟨rfl, hf, v', ⟨rfl, rfl, rfl, fn', h1, h2⟩, hH, h3⟩
      · cases hd
  · cases hd

/-- A run of the ideal machine, and what the machine's own call does. -/
theorem calls_run (hok : IntrOk X base W0) (hplan : PlanOk X) (hH : HRel base W0 μ H W) (hlaid : LaidRel X μ) {f : FuncId} {n : Nat} {code : Code} (he : entry X.P f = some (n, code)) {args : List Value} {args' : Array Value} (ha : LRel μ args args'.toList) (hn : args.length ≤ n)
    {fuel : Nat} {c' : Cfg} {v : Value} {H' : IHeap} (hrun : runI X fuel (startC f (fillTmps 0 args .leaf) n code H) = some c') (hd : doneF X f c' = some (v, H')) :
    Calls X.P f args' W fun e W' => ∃ v' μ', e = .returned v' ∧ HRel base W0 μ' H' W' ∧ VRel μ' v v' := by
  intro cs
  obtain ⟨μ', fr, cs1, W1, hs, hm⟩ := run_sim (cs0 := cs) hok hplan fuel _ c' μ _ [] W hrun (start_rel hH hlaid he ha hn)
  obtain ⟨rfl, hf, v', h1, h2, h3⟩ := done_rel hm hd
  have hs' : Steps X.P (lone (Frame.enter X.P f args' .normal) cs W) (lone fr cs W1) := by simpa using hs
  exact ⟨.returned v', W1, fr, ⟨v', μ', rfl, h2, h3⟩, hs', hf, h1⟩

/-! The heap with the listed variables alone. -/
noncomputable def heap0 : List (Nat × List Value) → Nat → IHeap
  | [], n => ⟨.leaf, n⟩
  | (g, cs) :: r, n => (heap0 r n).put g (.cells cs 0 true)
def LaidW (X : Ctx) (base : Env) (W0 : World) : Prop := (X.laid.map Prod.fst).Nodup ∧ ∀ p ∈ X.laid, base.K p.1 ∧ p.2.all flat = true ∧ ∃ a t fz, W0.heap[p.1]? = some (.cells a t fz) ∧ a.toList = p.2
noncomputable def map0 (l : List (Nat × List Value)) : Inj := fun b => match l.find? (fun p => Nat.beq b p.1) with
  | some p => some ⟨p.1, 0, p.2.length, 0⟩
  | none => none

theorem heap0_next (l : List (Nat × List Value)) (n : Nat) : (heap0 l n).next = n := by
  induction l with
  | nil => rfl
  | cons p l ih => exact ih
theorem heap0_get : ∀ (l : List (Nat × List Value)) (n b : Nat) (o : IObj), (l.map Prod.fst).Nodup → (heap0 l n).get b = some o → ∃ cs, (b, cs) ∈ l ∧ o = .cells cs 0 true := by
  intro l
  induction l with
  | nil => intro n b o _ h; simp [heap0, IHeap.get, Tr.get_leaf] at h
  | cons p l ih =>
    intro n b o hnd h
    obtain ⟨g, cs⟩ := p
    simp only [heap0] at h
    rw [IHeap.get_put] at h
    simp only [List.map_cons, List.nodup_cons] at hnd
    by_cases e : b = g
    · subst e; rw [if_pos rfl] at h; cases h; exact ⟨cs, by simp, rfl⟩
    · rw [if_neg e] at h
      obtain ⟨cs', h1, h2⟩ := ih n b o hnd.2 h
      exact ⟨cs', by simp [h1], h2⟩
theorem map0_eq {l : List (Nat × List Value)} (_hnd : (l.map Prod.fst).Nodup) {b : Nat} {T : Tgt} (h : map0 l b = some T) : ∃ cs, (b, cs) ∈ l ∧ T = ⟨b, 0, cs.length, 0⟩ := by
  unfold map0 at h
  split at h
  · rename_i p hp
    cases h
    have h1 := List.find?_some hp
    have h2 := List.mem_of_find?_eq_some hp
    have e := Nat.eq_of_beq_eq_true h1
    obtain ⟨g, cs⟩ := p
    simp only at e
    subst e
    exact ⟨cs, h2, rfl⟩
  · cases h
theorem mem_unique {l : List (Nat × List Value)} (hnd : (l.map Prod.fst).Nodup) {b : Nat} {x y : List Value} (h1 : (b, x) ∈ l) (h2 : (b, y) ∈ l) : x = y := by
  induction l with
  | nil => cases h1
  | cons p l ih =>
    simp only [List.map_cons, List.nodup_cons] at hnd
    rcases List.mem_cons.1 h1 with e1 | h1' <;> rcases List.mem_cons.1 h2 with e2 | h2'
    · rw [← e1] at e2; cases e2; rfl
    · exact absurd (List.mem_map.2 ⟨_, h2', rfl⟩) (by rw [← e1] at hnd; exact hnd.1)
    · exact absurd (List.mem_map.2 ⟨_, h1', rfl⟩) (by rw [← e2] at hnd; exact hnd.1)
    · exact ih hnd.2 h1' h2'

theorem flats_refl : ∀ (l : List Value), l.all flat = true → LRel μ l l
  | [], _ => .nil
  | a :: l, h => by
    simp only [List.all_cons, Bool.and_eq_true] at h
    exact .cons (flat_refl h.1) (flats_refl l h.2)

/-- The start over a world in which the listed variables are laid. -/
theorem start0 (hW : LaidW X base W0) (hmu : base.mu0.le (map0 X.laid)) (hsz : ∀ i, base.K i → i < W0.heap.size) {n : Nat} (hn : ∀ p ∈ X.laid, p.1 < n) : HRel base W0 (map0 X.laid) (heap0 X.laid n) W0 ∧ LaidRel X (map0 X.laid) := by
  obtain ⟨hnd, hall⟩ := hW
  refine ⟨⟨?_, ?_, ?_, ?_, ?_, hsz, fun _ _ => rfl, rfl, rfl, ?_, hmu, Nat.le_refl _⟩, ?_⟩
  · intro b o hb T hT
    obtain ⟨cs, h1, rfl⟩ := heap0_get _ _ _ _ hnd hb
    obtain ⟨cs', h2, rfl⟩ := map0_eq hnd hT
    obtain rfl := mem_unique hnd h1 h2
    obtain ⟨_, hf, a, t, fz, ha, hl⟩ := hall _ h1
    refine ⟨_, ha, .cells _ _ _ true a t fz.1 fz.2 rfl ?_ ?_ (fun e => by cases e)⟩
    · show LRel _ cs (List.take cs.length (List.drop 0 a.toList))
      simp only at hl
      rw [List.drop_zero, hl, List.take_length]
      exact flats_refl cs hf
    · simp only at hl
      rw [← hl]; simp
  · intro b o hb hr T hT
    obtain ⟨cs, h1, rfl⟩ := heap0_get _ _ _ _ hnd hb
    cases hr
  · intro b1 b2 o1 o2 _ _ T1 T2 h1 h2 hc
    obtain ⟨_, _, rfl⟩ := map0_eq hnd h1
    obtain ⟨_, _, rfl⟩ := map0_eq hnd h2
    exact hc
  · intro b hb
    rw [heap0_next] at hb
    refine ⟨?_, ?_⟩
    · cases hg : (heap0 X.laid n).get b with
      | none => rfl
      | some o =>
        obtain ⟨cs, h1, _⟩ := heap0_get _ _ _ _ hnd hg
        have := hn _ h1
        simp only at this
        omega
    · cases hg : map0 X.laid b with
      | none => rfl
      | some T =>
        obtain ⟨cs, h1, _⟩ := map0_eq hnd hg
        have := hn _ h1
        simp only at this
        omega
  · intro b T hT
    obtain ⟨cs, h1, rfl⟩ := map0_eq hnd hT
    exact hsz _ (hall _ h1).1
  · refine ⟨fun _ _ => False, ?_, ?_⟩
    · intro b a ro T hb
      obtain ⟨cs, h1, e⟩ := heap0_get _ _ _ _ hnd hb
      cases e
    · intro b a ro T hb
      obtain ⟨cs, h1, e⟩ := heap0_get _ _ _ _ hnd hb
      cases e
  · intro g hg
    obtain ⟨p, hp, he⟩ := List.any_eq_true.1 hg
    have e := Nat.eq_of_beq_eq_true he
    cases hm : map0 X.laid g with
    | none =>
      unfold map0 at hm
      split at hm
      · cases hm
      · rename_i hf
        rw [List.find?_eq_none] at hf
        exact absurd he (hf p hp)
    | some T =>
      obtain ⟨cs, h1, rfl⟩ := map0_eq hnd hm
      exact ⟨_, rfl, rfl, rfl⟩

/-- All that is there stays. -/
def Env.at (base : Env) (W : World) : Env := { base with K := fun i => i < W.heap.size, mu0 := fun _ => none }
theorem none_le (μ : Inj) : Inj.le (fun _ => none) μ := fun _ _ h => by cases h

/-- A world that has more, and what it had as it was. -/
theorem HRel.carry {W' : World} (h : HRel base W0 μ H W) (hs : W.heap.size ≤ W'.heap.size) (hold : ∀ i, i < W.heap.size → W'.heap[i]? = W.heap[i]?) (ho : W'.output = W.output) (hos : W'.os = W.os) : HRel base W0 μ H W' :=
  ⟨fun b o hb T hT => let ⟨o', h1, h2⟩ := h.obj b o hb T hT; ⟨o', by rw [hold _ (h.bound b T hT)]; exact h1, h2⟩, h.own, h.inj, h.fresh, fun b T hT => Nat.lt_of_lt_of_le (h.bound b T hT) hs, fun i hi => Nat.lt_of_lt_of_le (h.size i hi) hs,
    fun i hi => by rw [hold i (h.size i hi)]; exact h.below i hi, by rw [ho]; exact h.out, by rw [hos]; exact h.os,
    let ⟨φ, q⟩ := h.abs; ⟨φ, fun b a ro T h1 h2 => let ⟨r1, r2⟩ := q.rep b a ro T h1 h2; ⟨base.loc _ _ _ _ _ r1 (fun i hi => hold i ((base.bnd _ _ _ _ r1).2 i hi)), r2⟩, q.far⟩, h.le, Nat.le_trans h.grow hs⟩

theorem LaidW.carry (hW : LaidW X base W0) (h : HRel base W0 μ H W) : LaidW X (base.at W) W := by
  refine ⟨hW.1, fun p hp => ?_⟩
  obtain ⟨h1, h2, a, t, fz, h3, h4⟩ := hW.2 p hp
  exact ⟨h.size _ h1, h2, a, t, fz, by rw [h.below _ h1]; exact h3, h4⟩

theorem size_of_kept {b0 : Env} {W W' : World} {μ' : Inj} {H' : IHeap} (h : HRel (b0.at W) W μ' H' W') : W.heap.size ≤ W'.heap.size := h.grow

/-- A function of plain arguments that gives a plain value, run from its beginning: it leaves alone what was there. -/
theorem pure_run (Y : Ctx) (hP : Y.P = X.P) (hL : Y.laid = X.laid) (hW : LaidW X base W0) (hok : ∀ base W0, LaidW Y base W0 → IntrOk Y base W0) (hplan : PlanOk Y) {f : FuncId} {n N : Nat} {code : Code} (he : entry Y.P f = some (n, code)) {args : List Value} (hfl : args.all flat = true)
    (hn : args.length ≤ n) (hN : ∀ p ∈ Y.laid, p.1 < N) {fuel : Nat} {c' : Cfg} {v : Value} {H1 : IHeap} (hrun : runI Y fuel (startC f (fillTmps 0 args .leaf) n code (heap0 Y.laid N)) = some c') (hd : doneF Y f c' = some (v, H1)) (hv : flat v = true)
    (hH : HRel base W0 μ H W) {args' : Array Value} (ha : LRel μ args args'.toList) : Calls X.P f args' W fun e W' => ∃ v' μ', e = .returned v' ∧ HRel base W0 μ' H W' ∧ VRel μ' v v' ∧ Evolve μ H μ' H := by
  have hW1 : LaidW Y (base.at W) W := by
    have := hW.carry hH
    unfold LaidW at this ⊢
    rw [hL]; exact this
  obtain ⟨s1, s2⟩ := start0 (X := Y) hW1 (none_le _) (fun _ hi => hi) hN
  have hargs : args'.toList = args := flats_eq args _ hfl ha
  have hc := calls_run (args' := args') (hok _ _ hW1) hplan s1 s2 he (by rw [hargs]; exact flats_refl args hfl) hn hrun hd
  rw [hP] at hc
  refine hc.mono fun e W' ⟨v', μ', h1, h2, h3⟩ => ⟨v', μ, h1, hH.carry (size_of_kept h2) h2.below h2.out h2.os, ?_, Evolve.refl _ _⟩
  rw [flat_eq hv h3]; exact flat_refl hv

end
end Go.Ideal
