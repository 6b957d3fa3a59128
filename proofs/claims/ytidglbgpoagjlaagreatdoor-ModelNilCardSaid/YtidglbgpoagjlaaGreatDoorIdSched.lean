/-
  Part of the proof: the machine that runs a program by fixed orders, and that each of its runs is a run of the model; or a run of it in parts. No conditions.
-/
import Derived.Test.YtidglbgpoagjlaaGreatDoorIdSim4
namespace Go.Ideal
section
variable {X : Ctx} {base : Env} {W0 : World} {μ : Inj} {H : IHeap} {W : World}

/-! The orders that the machine may draw. -/
def Unl (listed : Array Bool) (i : Nat) : Prop := listed.getD i true = false

theorem ready_deps {ops : Array Oper} {listed : Array Bool} {i : Nat} (h : (!listed.getD i true && ((ops[i]?).map (·.after.all fun e => !Region.binds .any e || listed.getD e.on false)).getD false) = true) :
    Unl listed i ∧ ∃ o, ops[i]? = some o ∧ ∀ d ∈ depsOf o, listed.getD d false = true := by
  simp only [Bool.and_eq_true, Bool.not_eq_true'] at h
  refine ⟨h.1, ?_⟩
  cases ho : ops[i]? with
  | none => simp [ho] at h
  | some o =>
    refine ⟨o, rfl, fun d hd => ?_⟩
    have h2 := h.2
    simp only [ho, Option.map_some, Option.getD_some] at h2
    unfold depsOf at hd
    obtain ⟨e, he, rfl⟩ := List.mem_map.1 hd
    obtain ⟨he1, he2⟩ := List.mem_filter.1 he
    have := (Array.all_eq_true_iff_forall_mem.1 h2) e (by simpa using he1)
    rw [he2] at this
    simpa using this

theorem lin_topo {ops : Array Oper} : ∀ (fuel t : Nat) (listed : Array Bool), listed.size = ops.size → Topo ops (Region.linearise.go .any ops fuel t listed []) ∧ ∀ i ∈ Region.linearise.go .any ops fuel t listed [], Unl listed i := by
  intro fuel
  induction fuel with
  | zero => intro t listed _; simp [Region.linearise.go, Topo]
  | succ fuel ih =>
    intro t listed hsz
    unfold Region.linearise.go
    simp only
    split
    · rename_i i hi
      have hmem := List.mem_of_getElem? hi
      obtain ⟨hlt, hready⟩ := List.mem_filter.1 hmem
      obtain ⟨hu, o, ho, hd⟩ := ready_deps hready
      rw [linearise_go_acc]
      have hi0 : i < ops.size := by simpa using hlt
      obtain ⟨h1, h2⟩ := ih (t / _) (listed.setIfInBounds i true) (by simpa using hsz)
      simp only [List.reverse_cons, List.reverse_nil, List.nil_append, List.singleton_append]
      have hni : ∀ j ∈ Region.linearise.go .any ops fuel (t / (List.filter (fun i => !listed.getD i true && (Option.map (fun x => x.after.all fun e => !Region.binds Region.Mode.any e || listed.getD e.on false) ops[i]?).getD false) (List.range ops.size)).length) (listed.setIfInBounds i true) [], j ≠ i ∧ Unl listed j := by
        intro j hj
        have := h2 j hj
        unfold Unl at this ⊢
        refine ⟨?_, ?_⟩
        · rintro rfl
          rw [Array.getD_eq_getD_getElem?, Array.getElem?_setIfInBounds] at this
          simp [hsz, hi0] at this
        · by_cases e : j = i
          · subst e
            rw [Array.getD_eq_getD_getElem?, Array.getElem?_setIfInBounds] at this
            simp [hsz, hi0] at this
          · rwa [getD_set_ne _ (Ne.symm e)] at this
      refine ⟨⟨⟨o, ho, fun d hdd hm => ?_⟩, fun hm => (hni i hm).1 rfl, h1⟩, fun j hj => ?_⟩
      · have hl := hd d hdd
        have hun : Unl listed d := by
          rcases List.mem_cons.1 hm with rfl | hm
          · exact hu
          · exact (hni d hm).2
        unfold Unl at hun
        have hdlt : d < listed.size := by
          rcases Nat.lt_or_ge d listed.size with q | q
          · exact q
          · rw [Array.getD_eq_getD_getElem?, Array.getElem?_eq_none q] at hl; simp at hl
        rw [Array.getD_eq_getD_getElem?, Array.getElem?_eq_getElem hdlt] at hl hun
        simp at hl hun
        rw [hl] at hun; cases hun
      · rcases List.mem_cons.1 hj with rfl | hj
        · exact hu
        · exact (hni j hj).2
    · simp [Topo]

/-- Where a plan goes through, something is always ready. -/
theorem some_ready {P : Program} {ops : Array Oper} {listed : Array Bool} (hsz : listed.size = ops.size) : ∀ (plan : List PE) (D : List Nat), PlanWf ops plan → okPlan P ops D plan = true → (∀ d ∈ D, listed.getD d false = true) → (∃ i, i < ops.size ∧ Unl listed i) →
    ∃ i, i < ops.size ∧ (!listed.getD i true && ((ops[i]?).map (·.after.all fun e => !Region.binds .any e || listed.getD e.on false)).getD false) = true := by
  intro plan
  induction plan with
  | nil =>
    intro D _ hok hD ⟨i, hi, hu⟩
    unfold okPlan at hok
    have h1 := memB_iff.1 (List.all_eq_true.1 hok i (by simpa using hi))
    have h2 := hD i h1
    unfold Unl at hu
    rw [Array.getD_eq_getD_getElem?, Array.getElem?_eq_getElem (by omega)] at h2 hu
    simp at h2 hu
    rw [h2] at hu; cases hu
  | cons e plan ih =>
    intro D hwf hok hD hex
    have hwf' : PlanWf ops plan := fun e he => hwf e (by simp [he])
    cases e with
    | chk j o =>
      unfold okPlan at hok
      simp only [Bool.and_eq_true] at hok
      exact ih D hwf' hok.2 hD hex
    | op i o =>
      obtain ⟨h1, h2, h3, _⟩ := okPlan_op hok
      have hio : ops[i]? = some o := hwf (.op i o) (by simp)
      have hi : i < ops.size := (Array.getElem?_eq_some_iff.1 hio).1
      cases hl : listed.getD i true with
      | true =>
        refine ih (i :: D) hwf' h3 ?_ hex
        intro d hd
        rcases List.mem_cons.1 hd with rfl | hd
        · rw [Array.getD_eq_getD_getElem?, Array.getElem?_eq_getElem (by omega)] at hl ⊢
          simpa using hl
        · exact hD d hd
      | false =>
        refine ⟨i, hi, ?_⟩
        simp only [hl, Bool.not_false, Bool.true_and, hio, Option.map_some, Option.getD_some]
        rw [Array.all_eq_true_iff_forall_mem]
        intro e he
        cases hb : Region.binds .any e
        · rfl
        · simp only [Bool.not_true, Bool.false_or]
          exact hD _ (h2 _ (List.mem_map.2 ⟨e, List.mem_filter.2 ⟨by simpa using he, hb⟩, rfl⟩))

theorem filter_le {l : List Nat} {p q : Nat → Bool} (h : ∀ x, q x = true → p x = true) : (l.filter q).length ≤ (l.filter p).length := by
  induction l with
  | nil => simp
  | cons b l ih =>
    simp only [List.filter_cons]
    cases hq : q b
    · cases hp : p b
      · simpa using ih
      · simp; omega
    · rw [h b hq]; simpa using ih
theorem filter_lt {l : List Nat} {p q : Nat → Bool} (h : ∀ x, q x = true → p x = true) {a : Nat} (ha : a ∈ l) (hp : p a = true) (hq : q a = false) : (l.filter q).length < (l.filter p).length := by
  induction l with
  | nil => cases ha
  | cons b l ih =>
    simp only [List.filter_cons]
    have hle := filter_le (l := l) h
    rcases List.mem_cons.1 ha with rfl | ha
    · rw [hp, hq]; simp; omega
    · have := ih ha
      cases hqb : q b
      · cases hpb : p b
        · simpa using this
        · simp; omega
      · rw [h b hqb]; simpa using this

theorem lin_all {P : Program} {ops : Array Oper} {plan : List PE} (hwf : PlanWf ops plan) (hok : okPlan P ops [] plan = true) : ∀ (fuel t : Nat) (listed : Array Bool), listed.size = ops.size → ((List.range ops.size).filter fun i => !listed.getD i true).length ≤ fuel →
    ∀ i, i < ops.size → Unl listed i → i ∈ Region.linearise.go .any ops fuel t listed [] := by
  intro fuel
  induction fuel with
  | zero =>
    intro t listed hsz hlen i hi hu
    have : i ∈ (List.range ops.size).filter fun i => !listed.getD i true := List.mem_filter.2 ⟨by simpa using hi, by unfold Unl at hu; rw [hu]; rfl⟩
    have := List.length_pos_of_mem this
    omega
  | succ fuel ih =>
    intro t listed hsz hlen i hi hu
    unfold Region.linearise.go
    simp only
    obtain ⟨r, hr1, hr2⟩ := some_ready hsz plan [] hwf hok (fun d hd => by cases hd) ⟨i, hi, hu⟩
    have hne : (List.filter (fun i => !listed.getD i true && (Option.map (fun x => x.after.all fun e => !Region.binds Region.Mode.any e || listed.getD e.on false) ops[i]?).getD false) (List.range ops.size)).length ≠ 0 := by
      intro e
      have := List.eq_nil_of_length_eq_zero e
      have hm : r ∈ (List.filter (fun i => !listed.getD i true && (Option.map (fun x => x.after.all fun e => !Region.binds Region.Mode.any e || listed.getD e.on false) ops[i]?).getD false) (List.range ops.size)) := List.mem_filter.2 ⟨by simpa using hr1, hr2⟩
      rw [this] at hm; cases hm
    split
    · rename_i q hq
      have hmem := List.mem_of_getElem? hq
      obtain ⟨hlt, hready⟩ := List.mem_filter.1 hmem
      obtain ⟨huq, _⟩ := ready_deps hready
      have hq0 : q < ops.size := by simpa using hlt
      rw [linearise_go_acc]
      simp only [List.reverse_cons, List.reverse_nil, List.nil_append, List.singleton_append]
      by_cases e : i = q
      · subst e; simp
      · refine List.mem_cons_of_mem _ (ih _ _ (by simpa using hsz) ?_ i hi ?_)
        · have hsub : ((List.range ops.size).filter fun i => !(listed.setIfInBounds q true).getD i true).length < ((List.range ops.size).filter fun i => !listed.getD i true).length := by
            refine filter_lt (a := q) (fun x hx => ?_) (by simpa using hq0) (by unfold Unl at huq; rw [huq]; rfl) ?_
            · by_cases ex : x = q
              · subst ex
                rw [Array.getD_eq_getD_getElem?, Array.getElem?_setIfInBounds] at hx
                simp [hsz, hq0] at hx
              · rw [getD_set_ne _ (Ne.symm ex)] at hx; exact hx
            · rw [Array.getD_eq_getD_getElem?, Array.getElem?_setIfInBounds]
              simp [hsz, hq0]
          omega
        · unfold Unl at hu ⊢
          rw [getD_set_ne _ (Ne.symm e)]; exact hu
    · rename_i hq
      rw [List.getElem?_eq_none_iff] at hq
      have := Nat.mod_lt t (Nat.pos_of_ne_zero hne)
      omega

/-- What is asked of the plans. -/
def PlanOk (X : Ctx) : Prop := X.P.follows .mixedOrders = true ∧ ∀ ops p, X.plan ops = some p → okStat X.P ops = true ∧ PlanWf ops p ∧ okPlan X.P ops [] p = true

theorem sched_ok {P : Program} {ops : Array Oper} {plan : List PE} (hwf : PlanWf ops plan) (hok : okPlan P ops [] plan = true) (t : Nat) : Topo ops (Region.schedule true ops t) ∧ ∀ i, i < ops.size → i ∈ Region.schedule true ops t := by
  have e : Region.schedule true ops t = Region.linearise.go .any ops ops.size t (Array.replicate ops.size false) [] := by
    simp [Region.schedule, Region.linearise]
  rw [e]
  refine ⟨(lin_topo ops.size t _ (by simp)).1, fun i hi => lin_all hwf hok ops.size t _ (by simp) ?_ i hi ?_⟩
  · have := List.length_filter_le (fun i => !(Array.replicate ops.size false).getD i true) (List.range ops.size)
    simpa using this
  · unfold Unl
    rw [Array.getD_eq_getD_getElem?, Array.getElem?_replicate]
    simp [hi]

theorem c_draw {P : Program} {fn : FuncId} {tm : Array Value} {k : List Item} {ds : List Deferred} {kd : CallKind} {rd : Option Nat} {cs : List Frame} {id : Nat} {ops : Array Oper} :
    step P (lone ⟨fn, tm, .code (.region id ops true) :: k, ds, .run, kd, rd⟩ cs W) =
      .next (lone ⟨fn, tm, .inRegion ops (Region.schedule (P.follows .mixedOrders) ops (W.tape W.drawn (.order fn id))) :: k, ds, .run, kd, rd⟩ cs { W with drawn := W.drawn + 1 }) :=
  step_lone_go (by simp [stepG, stepG.exec, choose, Sem.run, Question.forced, Question.cut])

end
end Go.Ideal
