/-
  Part of the proof: the machine that runs a program by fixed orders, and that each of its runs is a run of the model; or a run of it in parts. No conditions.
-/
import Derived.Test.YtjaogllgillaiaaGreatDoorIdSim3
namespace Go.Ideal
section
variable {X : Ctx} {base : Env} {W0 : World} {μ : Inj} {H : IHeap} {W : World}

/-- The loop of a round, changed. -/
theorem loop_put (hH : HRel base W0 μ H W) {l : Nat} {T : Tgt} {q : ILoop} (hget : H.get l = some (.loop q)) (hT : μ l = some T) :
    ∃ r : Loop, W.heap[T.c]? = some (.loop r) ∧ r.state = q.state ∧ r.pending = q.pending ∧ ∀ st pe, HRel base W0 μ (H.put l (.loop { q with state := st, pending := pe })) { W with heap := W.heap.setIfInBounds T.c (.loop { r with state := st, pending := pe }) } ∧
      Evolve μ H μ (H.put l (.loop { q with state := st, pending := pe })) := by
  obtain ⟨o', ho', hor⟩ := hH.obj l _ hget T hT
  cases hor with
  | loop _ a R ht hd =>
    refine ⟨_, ho', rfl, rfl, fun st pe => ?_⟩
    exact hH.setObj (o1 := .loop { q with state := st, pending := pe }) hget rfl hT (.loop T { q with state := st, pending := pe } a R ht hd)

theorem leaveI_sim {gs : List Nat} {fn : FuncId} {t : Tr Value} {n : Nat} {tm : Array Value} {todo : List IItem} {todo' : List Item} {ds ds' : List Deferred} {kd : CallKind} {rd rd' : Option Nat} {cs : List IFrame} {cs' cs0 : List Frame} {c' : Cfg} {j : Option Code}
    (hH : HRel base W0 μ H W) (hlaid : LaidRel X μ) (ht : TRel μ t n tm) (hi : ItsRel μ todo todo') (hd : DefsRel μ ds ds') (hrd : RdRel μ rd rd') (hcs : FsRel X μ H gs cs cs') (hnd : gs.Nodup)
    (hj : (todo' = [] ∧ j = none) ∨ (∃ k, todo' = .code .ret :: k ∧ j = some .ret) ∨ ∃ id k, todo' = .code (.exit id) :: k ∧ exitTo id k = none ∧ j = some (.exit id))
    (h : leaveI j ⟨fn, t, n, todo, ds, false, kd, rd⟩ cs H = some c') : StepSim X base W0 cs0 c' (lone ⟨fn, tm, todo', ds', .run, kd, rd'⟩ (cs' ++ cs0) W) := by
  unfold leaveI at h
  simp only at h
  cases hrd with
  | none =>
    simp only at h
    have fin : ∀ (hh : todo' = [] ∨ ∃ k, todo' = .code .ret :: k), c' = ⟨⟨fn, t, n, todo, ds, true, kd, none⟩, cs, H⟩ → StepSim X base W0 cs0 c' (lone ⟨fn, tm, todo', ds', .run, kd, none⟩ (cs' ++ cs0) W) := by
      rintro hh rfl
      exact ⟨μ, _, cs', W, .one (c_leave todo' hh), hH, hlaid, [], gs, .plain fn t n tm todo todo' ds ds' true kd none none ht hi hd .none, hcs, hnd⟩
    rcases hj with ⟨h1, rfl⟩ | ⟨k, h1, rfl⟩ | ⟨id, k, h1, h2, rfl⟩
    · simp only [Option.some.injEq] at h; exact fin (.inl h1) h.symm
    · simp only [Option.some.injEq] at h; exact fin (.inr ⟨k, h1⟩) h.symm
    · simp at h
  | some l T hT =>
    simp only at h
    split at h
    · rename_i q hget
      obtain ⟨r, hr, hst, hpe, hput⟩ := loop_put hH hget hT
      have main : ∀ st, (st = if j.isNone then LoopState.ready else .done) → returnI kd (.bool j.isNone) cs (H.put l (.loop { q with state := st, pending := j })) = some c' →
          StepSim X base W0 cs0 c' (lone ⟨fn, tm, todo', ds', .run, kd, some T.c⟩ (cs' ++ cs0) W) := by
        intro st hst' h
        obtain ⟨p1, p2⟩ := hput st j
        refine returnI_sim p1 hlaid (hcs.mono (p2.keeps gs)) hnd (.bool j.isNone) (fun c rest hc hk => ?_) (fun c rest hc hk hmode => ?_) h
        · subst hk; subst hc; subst hst'
          exact .one (c_endRound hr hj)
        · subst hk
          subst hc; subst hst'
          refine .one ?_
          have hre := run_endRound (P := X.P) (j := j) hr
          obtain ⟨a1, a2, a3, a4, a5, a6, a7⟩ := c
          simp only at hmode
          subst hmode
          rcases hj with ⟨rfl, rfl⟩ | ⟨k, rfl, rfl⟩ | ⟨id, k, rfl, he, rfl⟩
          · exact step_lone_go (by simp [stepG, stepG.exec, hre, doReturn])
          · exact step_lone_go (by simp [stepG, stepG.exec, hre, doReturn])
          · exact step_lone_go (by simp [stepG, stepG.exec, hre, doReturn, he])
      cases j with
      | none => exact main .ready rfl h
      | some j => exact main .done rfl h
    · cases h

theorem stepRet_sim {gs : List Nat} {fn : FuncId} {t : Tr Value} {n : Nat} {tm : Array Value} {todo : List IItem} {todo' : List Item} {ds ds' : List Deferred} {kd : CallKind} {rd rd' : Option Nat} {cs : List IFrame} {cs' cs0 : List Frame} {c' : Cfg}
    (hH : HRel base W0 μ H W) (hlaid : LaidRel X μ) (ht : TRel μ t n tm) (hi : ItsRel μ todo todo') (hd : DefsRel μ ds ds') (hrd : RdRel μ rd rd') (hcs : FsRel X μ H gs cs cs') (hnd : gs.Nodup)
    (h : stepRet X ⟨fn, t, n, todo, ds, true, kd, rd⟩ cs H = some c') : StepSim X base W0 cs0 c' (lone ⟨fn, tm, todo', ds', .returning, kd, rd'⟩ (cs' ++ cs0) W) := by
  unfold stepRet at h
  simp only at h
  cases hd with
  | nil =>
    simp only at h
    split at h
    · rename_i v hres
      obtain ⟨f, v', hf, hrun, hv⟩ := results_sim hH ht hres
      refine returnI_sim hH hlaid hcs hnd hv (fun c rest hc hk => ?_) (fun c rest hc hk hmode => ?_) h
      · subst hk; subst hc; exact .one (c_return hf hrun)
      · subst hk; subst hc
        exact .one (c_returnD hf hrun (.inl hmode))
    · cases h
  | @cons d d' l l' hdr hdt =>
    obtain ⟨tgt, args⟩ := d
    obtain ⟨tgt', args'⟩ := d'
    obtain ⟨htg, hargs⟩ := hdr
    simp only at h htg hargs
    split at h
    · rename_i b
      cases htg with
      | collected _ T hT =>
        split at h
        · rename_i q hget
          cases h
          obtain ⟨o', ho', hor⟩ := hH.obj b _ hget T hT
          cases hor with
          | deferred _ q' hq =>
            obtain ⟨g1, g2⟩ := hH.setObj (o1 := .deferred none) (o1' := .deferred none) hget rfl hT (.deferredNone T)
            have hrun : (Instr.takeDeferred T.c).run X.P W = .ok q' { W with heap := W.heap.setIfInBounds T.c (.deferred none) } := by
              simp [Instr.takeDeferred, run_getObj' (P := X.P) ho' (by intro c t f; simp), run_setObj' (P := X.P) ho' (by intro c t f; simp)]
            exact ⟨μ, _, cs', _, .one (c_retCollected hrun), g1, hlaid, [], gs, .plain fn t n tm todo todo' _ _ true kd rd rd' ht hi (hq.append hdt) hrd, hcs.mono (g2.keeps gs), hnd⟩
        · cases h
    · rename_i g captured
      cases htg with
      | fn _ fn' _ ys' hfn hy =>
        cases hfn
        -- entering with the kind of a deferred call
        unfold enterI at h
        have hat : intrAt X g (args.toList ++ captured.toList) .deferred H = none := by unfold intrAt; split <;> rfl
        simp only [hat] at h
        · split at h
          · rename_i nn cc he
            cases hle : Nat.ble (args.toList ++ captured.toList).length nn
            · simp only [hle, cond_false] at h; cases h
            · simp only [hle, cond_true, Option.some.injEq] at h
              subst h
              have hal : LRel μ (args.toList ++ captured.toList) (args' ++ ys').toList := by simp only [Array.toList_append]; exact hargs.append hy
              refine ⟨μ, _, ⟨fn, tm, todo', l', .returning, kd, rd'⟩ :: cs', W, .one (c_retDefer (d := ⟨.fn (.func g) ys', args'⟩) (f := g) (args := args' ++ ys') (by intro b e; cases e) ?_), hH, hlaid, [], [] ++ gs, ?_, .cons ?_ hcs, hnd⟩
              · simp only [invoke]; exact run_callFunc he _ W
              · rw [enter_eq he]
                exact .plain g _ nn _ _ _ [] [] false .deferred none none (enter_rel hal (Nat.le_of_ble_eq_true hle)) (.cons (.code cc) .nil) .nil .none
              · exact .plain fn t n tm todo todo' l l' true kd rd rd' ht hi hdt hrd
          · cases h
    · cases h

end
end Go.Ideal

namespace Go.Ideal
section
variable {X : Ctx} {base : Env} {W0 : World} {μ : Inj} {H : IHeap} {W : World}

/-! The orders that the machine may draw. -/
def Unl (listed : Array Bool) (i : Nat) : Prop := listed.getD i true = false

theorem ready_deps {ops : Array Oper} {listed : Array Bool} {i : Nat} (h : (!listed.getD i true && ((ops[i]?).map (·.after.all fun e => !Region.binds .any e || listed.getD e.on false)).getD false) = true) :
    Unl listed i ∧ ∃ o, ops[i]? = some o ∧ ∀ d ∈ depsOf o, listed.getD d false = true := by
  simp only [Bool.and_eq_true, Bool.not_eq_true'] at h
  refine ⟨h.1, ?_⟩
  cases ho : ops[i]? with
  | none => simp [ho] at h
  | some o =>
    refine ⟨o, rfl, fun d hd => ?_⟩
    have h2 := h.2
    simp only [ho, Option.map_some, Option.getD_some] at h2
    unfold depsOf at hd
    obtain ⟨e, he, rfl⟩ := List.mem_map.1 hd
    obtain ⟨he1, he2⟩ := List.mem_filter.1 he
    have := (Array.all_eq_true_iff_forall_mem.1 h2) e (by simpa using he1)
    rw [he2] at this
    simpa using this

theorem lin_topo {ops : Array Oper} : ∀ (fuel t : Nat) (listed : Array Bool), listed.size = ops.size → Topo ops (Region.linearise.go .any ops fuel t listed []) ∧ ∀ i ∈ Region.linearise.go .any ops fuel t listed [], Unl listed i := by
  intro fuel
  induction fuel with
  | zero => intro t listed _; simp [Region.linearise.go, Topo]
  | succ fuel ih =>
    intro t listed hsz
    unfold Region.linearise.go
    simp only
    split
    · rename_i i hi
      have hmem := List.mem_of_getElem? hi
      obtain ⟨hlt, hready⟩ := List.mem_filter.1 hmem
      obtain ⟨hu, o, ho, hd⟩ := ready_deps hready
      rw [linearise_go_acc]
      have hi0 : i < ops.size := by simpa using hlt
      obtain ⟨h1, h2⟩ := ih (t / _) (listed.setIfInBounds i true) (by simpa using hsz)
      simp only [List.reverse_cons, List.reverse_nil, List.nil_append, List.singleton_append]
      have hni : ∀ j ∈ Region.linearise.go .any ops fuel (t / (List.filter (fun i => !listed.getD i true && (Option.map (fun x => x.after.all fun e => !Region.binds Region.Mode.any e || listed.getD e.on false) ops[i]?).getD false) (List.range ops.size)).length) (listed.setIfInBounds i true) [], j ≠ i ∧ Unl listed j := by
        intro j hj
        have := h2 j hj
        unfold Unl at this ⊢
        refine ⟨?_, ?_⟩
        · rintro rfl
          rw [Array.getD_eq_getD_getElem?, Array.getElem?_setIfInBounds] at this
          simp [hsz, hi0] at this
        · by_cases e : j = i
          · subst e
            rw [Array.getD_eq_getD_getElem?, Array.getElem?_setIfInBounds] at this
            simp [hsz, hi0] at this
          · rwa [getD_set_ne _ (Ne.symm e)] at this
      refine ⟨⟨⟨o, ho, fun d hdd hm => ?_⟩, fun hm => (hni i hm).1 rfl, h1⟩, fun j hj => ?_⟩
      · have hl := hd d hdd
        have hun : Unl listed d := by
          rcases List.mem_cons.1 hm with rfl | hm
          · exact hu
          · exact (hni d hm).2
        unfold Unl at hun
        have hdlt : d < listed.size := by
          rcases Nat.lt_or_ge d listed.size with q | q
          · exact q
          · rw [Array.getD_eq_getD_getElem?, Array.getElem?_eq_none q] at hl; simp at hl
        rw [Array.getD_eq_getD_getElem?, Array.getElem?_eq_getElem hdlt] at hl hun
        simp at hl hun
        rw [hl] at hun; cases hun
      · rcases List.mem_cons.1 hj with rfl | hj
        · exact hu
        · exact (hni j hj).2
    · simp [Topo]

/-- Where a plan goes through, something is always ready. -/
theorem some_ready {P : Program} {ops : Array Oper} {listed : Array Bool} (hsz : listed.size = ops.size) : ∀ (plan : List PE) (D : List Nat), PlanWf ops plan → okPlan P ops D plan = true → (∀ d ∈ D, listed.getD d false = true) → (∃ i, i < ops.size ∧ Unl listed i) →
    ∃ i, i < ops.size ∧ (!listed.getD i true && ((ops[i]?).map (·.after.all fun e => !Region.binds .any e || listed.getD e.on false)).getD false) = true := by
  intro plan
  induction plan with
  | nil =>
    intro D _ hok hD ⟨i, hi, hu⟩
    unfold okPlan at hok
    have h1 := memB_iff.1 (List.all_eq_true.1 hok i (by simpa using hi))
    have h2 := hD i h1
    unfold Unl at hu
    rw [Array.getD_eq_getD_getElem?, Array.getElem?_eq_getElem (by omega)] at h2 hu
    simp at h2 hu
    rw [h2] at hu; cases hu
  | cons e plan ih =>
    intro D hwf hok hD hex
    have hwf' : PlanWf ops plan := fun e he => hwf e (by simp [he])
    cases e with
    | chk j o =>
      unfold okPlan at hok
      simp only [Bool.and_eq_true] at hok
      exact ih D hwf' hok.2 hD hex
    | op i o =>
      obtain ⟨h1, h2, h3, _⟩ := okPlan_op hok
      have hio : ops[i]? = some o := hwf (.op i o) (by simp)
      have hi : i < ops.size := (Array.getElem?_eq_some_iff.1 hio).1
      cases hl : listed.getD i true with
      | true =>
        refine ih (i :: D) hwf' h3 ?_ hex
        intro d hd
        rcases List.mem_cons.1 hd with rfl | hd
        · rw [Array.getD_eq_getD_getElem?, Array.getElem?_eq_getElem (by omega)] at hl ⊢
          simpa using hl
        · exact hD d hd
      | false =>
        refine ⟨i, hi, ?_⟩
        simp only [hl, Bool.not_false, Bool.true_and, hio, Option.map_some, Option.getD_some]
        rw [Array.all_eq_true_iff_forall_mem]
        intro e he
        cases hb : Region.binds .any e
        · rfl
        · simp only [Bool.not_true, Bool.false_or]
          exact hD _ (h2 _ (List.mem_map.2 ⟨e, List.mem_filter.2 ⟨by simpa using he, hb⟩, rfl⟩))

theorem filter_le {l : List Nat} {p q : Nat → Bool} (h : ∀ x, q x = true → p x = true) : (l.filter q).length ≤ (l.filter p).length := by
  induction l with
  | nil => simp
  | cons b l ih =>
    simp only [List.filter_cons]
    cases hq : q b
    · cases hp : p b
      · simpa using ih
      · simp; omega
    · rw [h b hq]; simpa using ih
theorem filter_lt {l : List Nat} {p q : Nat → Bool} (h : ∀ x, q x = true → p x = true) {a : Nat} (ha : a ∈ l) (hp : p a = true) (hq : q a = false) : (l.filter q).length < (l.filter p).length := by
  induction l with
  | nil => cases ha
  | cons b l ih =>
    simp only [List.filter_cons]
    have hle := filter_le (l := l) h
    rcases List.mem_cons.1 ha with rfl | ha
    · rw [hp, hq]; simp; omega
    · have := ih ha
      cases hqb : q b
      · cases hpb : p b
        · simpa using this
        · simp; omega
      · rw [h b hqb]; simpa using this

theorem lin_all {P : Program} {ops : Array Oper} {plan : List PE} (hwf : PlanWf ops plan) (hok : okPlan P ops [] plan = true) : ∀ (fuel t : Nat) (listed : Array Bool), listed.size = ops.size → ((List.range ops.size).filter fun i => !listed.getD i true).length ≤ fuel →
    ∀ i, i < ops.size → Unl listed i → i ∈ Region.linearise.go .any ops fuel t listed [] := by
  intro fuel
  induction fuel with
  | zero =>
    intro t listed hsz hlen i hi hu
    have : i ∈ (List.range ops.size).filter fun i => !listed.getD i true := List.mem_filter.2 ⟨by simpa using hi, by unfold Unl at hu; rw [hu]; rfl⟩
    have := List.length_pos_of_mem this
    omega
  | succ fuel ih =>
    intro t listed hsz hlen i hi hu
    unfold Region.linearise.go
    simp only
    obtain ⟨r, hr1, hr2⟩ := some_ready hsz plan [] hwf hok (fun d hd => by cases hd) ⟨i, hi, hu⟩
    have hne : (List.filter (fun i => !listed.getD i true && (Option.map (fun x => x.after.all fun e => !Region.binds Region.Mode.any e || listed.getD e.on false) ops[i]?).getD false) (List.range ops.size)).length ≠ 0 := by
      intro e
      have := List.eq_nil_of_length_eq_zero e
      have hm : r ∈ (List.filter (fun i => !listed.getD i true && (Option.map (fun x => x.after.all fun e => !Region.binds Region.Mode.any e || listed.getD e.on false) ops[i]?).getD false) (List.range ops.size)) := List.mem_filter.2 ⟨by simpa using hr1, hr2⟩
      rw [this] at hm; cases hm
    split
    · rename_i q hq
      have hmem := List.mem_of_getElem? hq
      obtain ⟨hlt, hready⟩ := List.mem_filter.1 hmem
      obtain ⟨huq, _⟩ := ready_deps hready
      have hq0 : q < ops.size := by simpa using hlt
      rw [linearise_go_acc]
      simp only [List.reverse_cons, List.reverse_nil, List.nil_append, List.singleton_append]
      by_cases e : i = q
      · subst e; simp
      · refine List.mem_cons_of_mem _ (ih _ _ (by simpa using hsz) ?_ i hi ?_)
        · have hsub : ((List.range ops.size).filter fun i => !(listed.setIfInBounds q true).getD i true).length < ((List.range ops.size).filter fun i => !listed.getD i true).length := by
            refine filter_lt (a := q) (fun x hx => ?_) (by simpa using hq0) (by unfold Unl at huq; rw [huq]; rfl) ?_
            · by_cases ex : x = q
              · subst ex
                rw [Array.getD_eq_getD_getElem?, Array.getElem?_setIfInBounds] at hx
                simp [hsz, hq0] at hx
              · rw [getD_set_ne _ (Ne.symm ex)] at hx; exact hx
            · rw [Array.getD_eq_getD_getElem?, Array.getElem?_setIfInBounds]
              simp [hsz, hq0]
          omega
        · unfold Unl at hu ⊢
          rw [getD_set_ne _ (Ne.symm e)]; exact hu
    · rename_i hq
      rw [List.getElem?_eq_none_iff] at hq
      have := Nat.mod_lt t (Nat.pos_of_ne_zero hne)
      omega

/-- What is asked of the plans. -/
def PlanOk (X : Ctx) : Prop := X.P.follows .mixedOrders = true ∧ ∀ ops p, X.plan ops = some p → okStat X.P ops = true ∧ PlanWf ops p ∧ okPlan X.P ops [] p = true

theorem sched_ok {P : Program} {ops : Array Oper} {plan : List PE} (hwf : PlanWf ops plan) (hok : okPlan P ops [] plan = true) (t : Nat) : Topo ops (Region.schedule true ops t) ∧ ∀ i, i < ops.size → i ∈ Region.schedule true ops t := by
  have e : Region.schedule true ops t = Region.linearise.go .any ops ops.size t (Array.replicate ops.size false) [] := by
    simp [Region.schedule, Region.linearise]
  rw [e]
  refine ⟨(lin_topo ops.size t _ (by simp)).1, fun i hi => lin_all hwf hok ops.size t _ (by simp) ?_ i hi ?_⟩
  · have := List.length_filter_le (fun i => !(Array.replicate ops.size false).getD i true) (List.range ops.size)
    simpa using this
  · unfold Unl
    rw [Array.getD_eq_getD_getElem?, Array.getElem?_replicate]
    simp [hi]

theorem c_draw {P : Program} {fn : FuncId} {tm : Array Value} {k : List Item} {ds : List Deferred} {kd : CallKind} {rd : Option Nat} {cs : List Frame} {id : Nat} {ops : Array Oper} :
    step P (lone ⟨fn, tm, .code (.region id ops true) :: k, ds, .run, kd, rd⟩ cs W) =
      .next (lone ⟨fn, tm, .inRegion ops (Region.schedule (P.follows .mixedOrders) ops (W.tape W.drawn (.order fn id))) :: k, ds, .run, kd, rd⟩ cs { W with drawn := W.drawn + 1 }) :=
  step_lone_go (by simp [stepG, stepG.exec, choose, Sem.run, Question.forced, Question.cut])

end
end Go.Ideal

namespace Go.Ideal
section
variable {X : Ctx} {base : Env} {W0 : World} {μ : Inj} {H : IHeap} {W : World}

theorem range_map (ops : Array Oper) : (List.range ops.size).map (ops[·]?) = ops.toList.map some := by
  apply List.ext_getElem?
  intro i
  simp only [List.getElem?_map, Array.getElem?_toList]
  by_cases h : i < ops.size
  · simp [h]
  · simp [h]


theorem c_rangeFuncV {P : Program} {fn : FuncId} {tm : Array Value} {k : List Item} {ds : List Deferred} {kd : CallKind} {rd : Option Nat} {cs : List Frame} {f : Operand} {ps : Array Tmp} {a b : Code} {l : Nat} {mark : List Deferred} {W' W2 : World} {v : Value}
    (hl : (Instr.enterLoop fn tm ps a b rd).run P W = .ok (l, mark) W')
    (hr : (do let d ← resolve (Frame.eval ⟨fn, tm, .inRangeFunc l :: k, mark ++ ds, .run, kd, rd⟩) { callee := .value f, args := #[.const (.func (.yield l) #[] #[])], argTypes := #[] } 0; invoke d.target d.args : Sem Next).run P W' = .ok (.value v) W2) :
    step P (lone ⟨fn, tm, .code (.rangeFunc f ps a b) :: k, ds, .run, kd, rd⟩ cs W) = .next (lone (Frame.finish ⟨fn, tm, .inRangeFunc l :: k, mark ++ ds, .run, kd, rd⟩ v) cs W2) := by
  refine step_lone_go ?_
  simp only [stepG, stepG.exec, Sem.runT_eq, hl, GStep.bare_after]
  simp only [stepG.apply, Sem.runT_eq, if_true, GStep.bare_after]
  rw [hr]
  rfl

/-- The call of a function that is ranged over, behind the making of the loop. -/
theorem rangeCall_sim (hok : IntrOk X base W0) {gs : List Nat} {fn : FuncId} {t : Tr Value} {n : Nat} {tm : Array Value} {k : List IItem} {k' : List Item} {ds' ds1 mark : List Deferred} {kd : CallKind} {rd rd' : Option Nat} {cs : List IFrame} {cs' cs0 : List Frame} {c' : Cfg}
    {f : Operand} {ps : Array Tmp} {a b : Code} {l : Nat} {T : Tgt} {μ1 : Inj} {H1 : IHeap} {W1 : World}
    (hH : HRel base W0 μ1 H1 W1) (hlaid : LaidRel X μ1) (ht : TRel μ1 t n tm) (hk : ItsRel μ1 k k') (hd : DefsRel μ1 ds1 (mark ++ ds')) (hrd : RdRel μ1 rd rd') (hcs : FsRel X μ1 H1 gs cs cs') (hnd : gs.Nodup) (hT : μ1 l = some T)
    (hl : (Instr.enterLoop fn tm ps a b rd').run X.P W = .ok (T.c, mark) W1)
    (h : callI X (ieval X t f) [.func (.yield l) ⟨[]⟩ ⟨[]⟩] ⟨fn, t, n, .inRangeFunc l :: k, ds1, false, kd, rd⟩ cs H1 = some c') :
    StepSim X base W0 cs0 c' (lone ⟨fn, tm, .code (.rangeFunc f ps a b) :: k', ds', .run, kd, rd'⟩ (cs' ++ cs0) W) := by
  have hfr : FRel X μ1 H1 [] ⟨fn, t, n, .inRangeFunc l :: k, ds1, false, kd, rd⟩ ⟨fn, tm, .inRangeFunc T.c :: k', mark ++ ds', .run, kd, rd'⟩ :=
    .plain fn t n tm _ _ _ _ false kd rd rd' ht (.cons (.inRangeFunc l T hT) hk) hd hrd
  have hf := eval_rel (fr := ⟨fn, tm, .inRangeFunc T.c :: k', mark ++ ds', .run, kd, rd'⟩) hlaid ht f
  have hyv : LRel μ1 [.func (.yield l) ⟨[]⟩ ⟨[]⟩] [.func (.yield T.c) #[] #[]] := .cons (VRel.func_iff.2 ⟨_, _, _, rfl, .yield l T hT, .nil, .nil⟩) .nil
  have hmap : ∀ fr : Frame, (#[Operand.const (Value.func (Fn.yield T.c) #[] #[])] : Array Operand).map fr.eval = #[.func (.yield T.c) #[] #[]] := fun fr => by simp [Frame.eval]
  unfold callI at h
  split at h
  · rename_i g first captured hfe
    rw [hfe] at hf
    obtain ⟨fn', xs', ys', hfe', hfn, hx1, hy1⟩ := VRel.func_iff.1 hf
    cases hfn
    refine enterI_sim hok (args' := xs' ++ #[.func (.yield T.c) #[] #[]] ++ ys') hH hlaid hfr hcs hnd ?_ (fun nn cc he => .one (c_rangeFunc hl ?_)) (fun v hv => ?_) h
    · simp only [Array.toList_append]; exact (hx1.append hyv).append hy1
    · simp only [resolve, hfe', Deferred.ofValue, Sem.run_bind, Sem.run_pure, Result.andThen_ok, invoke, hmap]
      exact run_callFunc he _ _
    · exact .one (c_rangeFuncV hl (by simp only [resolve, hfe', Deferred.ofValue, Sem.run_bind, Sem.run_pure, Result.andThen_ok, invoke, hmap]; exact hv))
  · rename_i l2 first captured hfe
    rw [hfe] at hf
    obtain ⟨fn', xs', ys', hfe', hfn, hx1, hy1⟩ := VRel.func_iff.1 hf
    cases hfn with
    | yield _ T2 hT2 =>
      refine yieldI_sim (args' := xs' ++ #[.func (.yield T.c) #[] #[]]) hH hlaid hfr hcs hnd ?_ hT2 (fun f2 t2 a2 b2 hy => .one (c_rangeFuncY hl ?_)) h
      · simp only [Array.toList_append]; exact hx1.append hyv
      · simp only [resolve, hfe', Deferred.ofValue, Sem.run_bind, Sem.run_pure, Result.andThen_ok, invoke, hmap]
        exact hy
  · cases h

end
end Go.Ideal
