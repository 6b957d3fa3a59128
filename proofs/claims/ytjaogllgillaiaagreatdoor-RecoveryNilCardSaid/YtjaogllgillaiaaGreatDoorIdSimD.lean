/-
  Part of the proof: the machine that runs a program by fixed orders, and that each of its runs is a run of the model; or a run of it in parts. No conditions.
-/
import Derived.Test.YtjaogllgillaiaaGreatDoorIdSim
namespace Go.Ideal
section
variable {X : Ctx} {base : Env} {W0 : World} {μ : Inj} {H : IHeap} {W : World}

theorem memB_iff {l : List Nat} {i : Nat} : memB l i = true ↔ i ∈ l := by
  unfold memB
  rw [List.any_eq_true]
  constructor
  · rintro ⟨x, hx, h⟩; rw [Nat.eq_of_beq_eq_true h]; exact hx
  · intro h; exact ⟨i, h, Nat.beq_refl _⟩
theorem mem_zip {ops : Array Oper} {i : Nat} {o : Oper} (h : ops[i]? = some o) : (o, i) ∈ ops.toList.zipIdx := by
  rw [List.mk_mem_zipIdx_iff_getElem?, Array.getElem?_toList]; exact h
theorem sameDst_some {a : Option Tmp} {u : Tmp} (h : a = some u) : sameDst a (some u) = true := by subst h; exact Nat.beq_refl _

theorem stat_reads {P : Program} {ops : Array Oper} (h : okStat P ops = true) {i j : Nat} {o oj : Oper} {u : Tmp} (hi : ops[i]? = some o) (hj : ops[j]? = some oj) (hu : u ∈ readsOf ops o) (hd : oj.dst = some u) : j ∈ depsOf o ∨ (clsOf P oj = 2 ∧ i ∈ ancOf ops.toList oj) := by
  have h1 := List.all_eq_true.1 h _ (mem_zip hi)
  simp only [Bool.and_eq_true] at h1
  have h2 := List.all_eq_true.1 (List.all_eq_true.1 h1.1.1 u hu) _ (mem_zip hj)
  simp only [sameDst_some hd, Bool.not_true, Bool.false_or, Bool.or_eq_true, Bool.and_eq_true] at h2
  rcases h2 with h2 | ⟨h2, h3⟩
  · exact .inl (memB_iff.1 h2)
  · exact .inr ⟨Nat.eq_of_beq_eq_true h2, memB_iff.1 h3⟩
theorem stat_dst {P : Program} {ops : Array Oper} (h : okStat P ops = true) {i : Nat} {o : Oper} (hi : ops[i]? = some o) (hc : clsOf P o ≠ 2) : ∃ d, o.dst = some d := by
  have h1 := List.all_eq_true.1 h _ (mem_zip hi)
  simp only [Bool.and_eq_true] at h1
  have h2 := h1.1.2
  rw [Bool.or_eq_true] at h2
  rcases h2 with h2 | h2
  · exact absurd (Nat.eq_of_beq_eq_true h2) hc
  · exact Option.isSome_iff_exists.1 h2
theorem stat_distinct {P : Program} {ops : Array Oper} (h : okStat P ops = true) {i j : Nat} {o oj : Oper} {u : Tmp} (hi : ops[i]? = some o) (hj : ops[j]? = some oj) (hne : i ≠ j) (h1 : o.dst = some u) (h2 : oj.dst = some u) : False := by
  have h3 := List.all_eq_true.1 h _ (mem_zip hi)
  simp only [Bool.and_eq_true] at h3
  have h4 := List.all_eq_true.1 h3.2 _ (mem_zip hj)
  simp only [h1, h2, sameDst, Nat.beq_refl, Bool.not_true, Bool.or_false] at h4
  exact hne (Nat.eq_of_beq_eq_true h4)

theorem anc_sub {ops : List Oper} (S : Nat → Prop) (hS : ∀ i o, ops[i]? = some o → S i → ∀ d ∈ depsOf o, S d) : ∀ (f : Nat) (todo seen : List Nat), (∀ i ∈ todo, S i) → (∀ i ∈ seen, S i) → ∀ i ∈ ancGo ops f todo seen, S i := by
  intro f
  induction f with
  | zero => intro todo seen _ h2 i hi; exact h2 i hi
  | succ f ih =>
    intro todo seen h1 h2 i hi
    unfold ancGo at hi
    split at hi
    · exact h2 i hi
    · rename_i j r
      cases hs : seen.any (Nat.beq j)
      · simp only [hs, cond_false] at hi
        split at hi
        · rename_i o ho
          have hj := h1 j (by simp)
          refine ih _ _ ?_ ?_ i hi
          · intro d hd
            rcases List.mem_append.1 hd with hd | hd
            · exact hS j o ho hj d hd
            · exact h1 d (by simp [hd])
          · intro d hd
            rcases List.mem_cons.1 hd with rfl | hd
            · exact hj
            · exact h2 d hd
        · exact ih _ _ (fun d hd => h1 d (by simp [hd])) h2 i hi
      · simp only [hs, cond_true] at hi
        exact ih _ _ (fun d hd => h1 d (by simp [hd])) h2 i hi

/-! Slots. -/
theorem look_put_same (t : Tr Value) (d : Nat) (v : Value) : look (t.put d (some v)) d = v := by unfold look; rw [Tr.get_put_same]; rfl
theorem look_put_ne (t : Tr Value) {d u : Nat} (v : Value) (h : u ≠ d) : look (t.put d (some v)) u = look t u := by unfold look; rw [Tr.get_put_ne _ _ h]
theorem getD_set_same (tm : Array Value) {d : Nat} (v : Value) (h : d < tm.size) : (tm.setIfInBounds d v).getD d Go.undef = v := by
  rw [Array.getD_eq_getD_getElem?, Array.getElem?_setIfInBounds]; simp [h]
theorem getD_set_ne' (tm : Array Value) {d u : Nat} (v : Value) (h : u ≠ d) : (tm.setIfInBounds d v).getD u Go.undef = tm.getD u Go.undef := by
  rw [Array.getD_eq_getD_getElem?, Array.getElem?_setIfInBounds]; simp [Ne.symm h, Array.getD_eq_getD_getElem?]
theorem ieval_congr {t t' : Tr Value} {x : Operand} (h : ∀ u, x = .tmp u → look t' u = look t u) : ieval X t' x = ieval X t x := by
  cases x with
  | tmp u => exact h u rfl
  | _ => rfl
theorem reads_tmp {ops : Array Oper} {o : Oper} {u : Tmp} (h : Operand.tmp u ∈ o.op.operands) : u ∈ readsOf ops o := by
  unfold readsOf
  refine List.mem_append_left _ (List.mem_filterMap.2 ⟨.tmp u, by simpa using h, rfl⟩)
theorem reads_guard {ops : Array Oper} {o : Oper} {j : Nat} {w : Bool} {d : Tmp} (h : o.guard = some (j, w)) (hd : guardVal ops j = some d) : d ∈ readsOf ops o := by
  unfold readsOf
  refine List.mem_append_right _ ?_
  simp only [h, hd]
  simp
theorem wantedI_congr {ops : Array Oper} {o : Oper} {t t' : Tr Value} (h : ∀ u ∈ readsOf ops o, look t' u = look t u) : wantedI ops o t' = wantedI ops o t := by
  unfold wantedI
  cases hg : o.guard with
  | none => rfl
  | some jw =>
    obtain ⟨j, w⟩ := jw
    simp only
    cases hd : guardVal ops j with
    | none => rfl
    | some d =>
      simp only
      rw [h d (reads_guard hg hd)]
theorem iop_tmps {ops : Array Oper} {o : Oper} {t t' : Tr Value} (h : ∀ u ∈ readsOf ops o, look t' u = look t u) (H : IHeap) : iop X.P (ieval X t') o H = iop X.P (ieval X t) o H :=
  iop_congr o fun x hx => ieval_congr fun u hu => h u (reads_tmp (by rw [← hu]; exact hx))
theorem PenOf.congr {ops : Array Oper} {t t' : Tr Value} {G : List (Nat × Nat)} {Fact Fact' : Nat → Oper → Nat → Prop} {i : Nat} {o : Oper} (hr : ∀ u ∈ readsOf ops o, look t' u = look t u) (hd : ∀ d, o.dst = some d → look t' d = look t d)
    (hf : ∀ d, o.dst = some d → wantedI ops o t = some true → clsOf X.P o = 0 → Fact i o d → Fact' i o d) (h : PenOf X μ H ops t G Fact i o) : PenOf X μ H ops t' G Fact' i o := by
  obtain ⟨d, h1, h0, h2⟩ := h
  refine ⟨d, h1, h0, ?_⟩
  rw [wantedI_congr hr, hd d h1]
  rcases h2 with h2 | ⟨a, b, c⟩ | ⟨a, b, q, hq, obj, mk, e1, e2, e3⟩
  · exact .inl h2
  · exact .inr (.inl ⟨a, b, hf d h1 a b c⟩)
  · exact .inr (.inr ⟨a, b, q, hq, obj, mk, e1, fun H2 => by rw [iop_tmps hr]; exact e2 H2, e3⟩)

theorem okPlan_op {P : Program} {ops : Array Oper} {D : List Nat} {i : Nat} {o : Oper} {rest : List PE} (h : okPlan P ops D (.op i o :: rest) = true) : i ∉ D ∧ (∀ d ∈ depsOf o, d ∈ D) ∧ okPlan P ops (i :: D) rest = true ∧
    (clsOf P o = 2 → (∀ j oj, ops[j]? = some oj → j ∈ D ∨ j = i ∨ i ∈ ancOf ops.toList oj) ∧ ∀ j oj, j ∈ D → ops[j]? = some oj → clsOf P oj = 0 → j ∈ ancOf ops.toList o ∨ j ∈ lead rest) := by
  unfold okPlan at h
  simp only [Bool.and_eq_true, Bool.not_eq_true'] at h
  obtain ⟨⟨⟨h1, h2⟩, h3⟩, h4⟩ := h
  refine ⟨(fun hm => by rw [memB_iff.2 hm] at h1; cases h1), fun d hd => memB_iff.1 (List.all_eq_true.1 h2 d hd), h4, fun hc => ?_⟩
  rw [hc] at h3
  simp only [Nat.beq_refl, cond_true, Bool.and_eq_true] at h3
  refine ⟨fun j oj hj => ?_, fun j oj hj hoj hc0 => ?_⟩
  · have := List.all_eq_true.1 h3.1 _ (mem_zip hj)
    simp only [Bool.or_eq_true] at this
    rcases this with (h5 | h5) | h5
    · exact .inl (memB_iff.1 h5)
    · exact .inr (.inl (Nat.eq_of_beq_eq_true h5))
    · exact .inr (.inr (memB_iff.1 h5))
  · have := List.all_eq_true.1 h3.2 j hj
    rw [Array.getElem?_toList, hoj] at this
    simp only [hc0, Nat.beq_refl, Bool.not_true, Bool.false_or, Bool.or_eq_true] at this
    exact this.imp memB_iff.1 memB_iff.1

/-- The slot of an operation that is not done yet is read by none that is. -/
theorem DRel.apart {ops : Array Oper} {t : Tr Value} {n : Nat} {tm : Array Value} {D : List Nat} {plan : List PE} {idx : List Nat} {G : List (Nat × Nat)} {Fact : Nat → Oper → Nat → Prop} (h : DRel X μ H ops t n tm D plan idx G Fact)
    {x j : Nat} {o oj : Oper} {d : Tmp} (hx : ops[x]? = some o) (hxD : x ∉ D) (hd : o.dst = some d) (hj : ops[j]? = some oj) (hjD : j ∈ D) (hdis : clsOf X.P o = 2 → j ∉ ancOf ops.toList o) : d ∉ readsOf ops oj ∧ oj.dst ≠ some d := by
  refine ⟨fun hr => (stat_reads h.stat hj hx hr hd).elim (fun q => hxD (h.dcl j oj hj hjD x q)) fun q => hdis q.1 q.2, fun e => ?_⟩
  exact stat_distinct h.stat hx hj (by rintro rfl; exact hxD hjD) hd e

/-- The operation at the plan's head is done on both sides. -/
theorem DRel.advance {ops : Array Oper} {t t' : Tr Value} {n x : Nat} {tm tm' : Array Value} {D : List Nat} {rest : List PE} {idx : List Nat} {G : List (Nat × Nat)} {o : Oper} {v v' : Value} (ho : ops[x]? = some o)
    (h : DRel X μ H ops t n tm D (.op x o :: rest) (x :: idx) G (FactSusp rest)) (hv : VRel μ v v')
    (hs : (∃ d, o.dst = some d ∧ d < n ∧ t' = t.put d (some v) ∧ tm' = tm.setIfInBounds d v') ∨ (o.dst = none ∧ t' = t ∧ tm' = tm)) : DRel X μ H ops t' n tm' (x :: D) rest idx G (FactNow X H t' rest) := by
  obtain ⟨hxD, hdeps, hok, hcls⟩ := okPlan_op h.okp
  obtain ⟨⟨o2, ho2, hdx⟩, hxi, htopo⟩ := h.topo
  rw [ho] at ho2; cases ho2
  have hlook : ∀ u, o.dst ≠ some u → look t' u = look t u := by
    intro u hu
    rcases hs with ⟨d, hd, _, rfl, _⟩ | ⟨_, rfl, _⟩
    · exact look_put_ne t v (by rintro rfl; exact hu hd)
    · rfl
  refine ⟨h.stat, fun e he => h.wf e (by simp [he]), hok, htopo, ?_, ?_, ?_, ?_, ?_, ?_, h.gnd, h.glt⟩
  · intro i oi hi hni
    by_cases e : i = x
    · subst e
      rw [ho] at hi; cases hi
      exact ⟨by simp, fun d hd hm => hdx d hd (by simp [hm])⟩
    · obtain ⟨h1, h2⟩ := h.clo i oi hi (by simp [e, hni])
      exact ⟨by simp [h1], fun d hd hm => h2 d hd (by simp [hm])⟩
  · intro i oi hi hiD d hd
    rcases List.mem_cons.1 hiD with rfl | hiD
    · rw [ho] at hi; cases hi; simp [hdeps d hd]
    · simp [h.dcl i oi hi hiD d hd]
  · rcases hs with ⟨d, _, _, _, rfl⟩ | ⟨_, _, rfl⟩
    · simp [h.sz]
    · exact h.sz
  · intro u hu
    have hold : (∀ i oi, ops[i]? = some oi → i ∈ D → i ∈ x :: idx → oi.dst ≠ some u) := by
      intro i oi hi hiD him
      rcases List.mem_cons.1 him with rfl | him
      · exact absurd hiD hxD
      · exact hu i oi hi (by simp [hiD]) him
    have hu0 := h.tmp u hold
    rcases hs with ⟨d, hd, hdn, rfl, rfl⟩ | ⟨_, rfl, rfl⟩
    · by_cases e : u = d
      · subst e
        rw [look_put_same, getD_set_same _ _ (by rw [h.sz]; exact hdn)]; exact hv
      · rw [look_put_ne _ _ e, getD_set_ne' _ _ e]; exact hu0
    · exact hu0
  · intro i oi hi hiD him
    have hix : i ≠ x := by rintro rfl; exact hxi him
    have hiD' : i ∈ D := by
      rcases List.mem_cons.1 hiD with e | e
      · exact absurd e hix
      · exact e
    have hp := h.pen i oi hi hiD' (by simp [him])
    have hdis : clsOf X.P o = 2 → i ∉ ancOf ops.toList o := fun _ ha => by
      refine anc_sub (ops := ops.toList) (fun q => q ∉ x :: idx) (fun q oq hq hnq => ?_) _ _ _ (fun q hq => hdx q hq) (fun q hq => by cases hq) i ha (by simp [him])
      rw [Array.getElem?_toList] at hq
      exact (h.clo q oq hq hnq).2
    refine hp.congr (fun u hu => hlook u fun e => (h.apart ho hxD e hi hiD' hdis).1 hu) (fun d hd => hlook d fun e => (h.apart ho hxD e hi hiD' hdis).2 hd) fun d _ _ _ hf => .inl hf
  · intro i oi d hi hiD hd
    rcases List.mem_cons.1 hiD with rfl | hiD
    · rw [ho] at hi; cases hi
      rcases hs with ⟨d2, hd2, hlt, _, _⟩ | ⟨hn, _, _⟩
      · rw [hd2] at hd; cases hd; exact hlt
      · rw [hn] at hd; cases hd
    · exact h.dlt i oi d hi hiD hd

theorem finish_rel {g : List Nat} {f : IFrame} {f' : Frame} {f1 : IFrame} {v v' : Value} (hf : FRel X μ H g f f') (hv : VRel μ v v') (h : finishI f v = some f1) : TopRel X μ H g f1 (f'.finish v') := by
  cases hf with
  | plain fn t n tm todo todo' ds ds' r kd rd rd' ht hi hd hr =>
    unfold finishI at h
    rw [forceV_eq] at h
    simp only at h
    split at h
    · rename_i ops o rest k
      cases hi with
      | cons h1 h2 =>
        cases h1 with
        | reg _ _ idx hidx =>
          cases idx with
          | nil => simp at hidx
          | cons i idx =>
            simp only [List.map_cons, List.cons.injEq] at hidx
            split at h
            · rename_i d hdst
              cases hlt : Nat.blt d n
              · simp [hlt] at h
              · simp only [hlt, cond_true, Option.some.injEq] at h
                subst h
                simp only [Frame.finish, hidx.1, Option.bind_some, hdst]
                exact .plain fn _ n _ _ _ ds ds' r kd rd rd' (ht.put (Nat.le_of_ble_eq_true hlt) hv) (.cons (.reg ops rest idx hidx.2) h2) hd hr
            · rename_i hdst
              cases h
              simp only [Frame.finish, hidx.1, Option.bind_some, hdst]
              exact .plain fn _ n _ _ _ ds ds' r kd rd rd' ht (.cons (.reg ops rest idx hidx.2) h2) hd hr
    · rename_i ops i o rest k
      cases hi with
      | cons h1 h2 => cases h1
    · rename_i l k
      cases h
      cases hi with
      | cons h1 h2 =>
        cases h1 with
        | inRangeFunc _ T hT => exact .plain fn _ n _ _ _ ds ds' r kd rd rd' ht (.cons (.endRangeFunc l T hT) h2) hd hr
    · rename_i k
      cases h
      cases hi with
      | cons h1 h2 =>
        cases h1
        exact .plain fn _ n _ _ _ ds ds' r kd rd rd' ht h2 hd hr
    · cases h
  | susp fn t n tm ops x o rest idx D G k k' ds ds' kd rd rd' ho hD hk hd hr =>
    unfold finishI at h
    rw [forceV_eq] at h
    simp only at h
    split at h
    · rename_i d hdst
      cases hlt : Nat.blt d n
      · simp [hlt] at h
      · simp only [hlt, cond_true, Option.some.injEq] at h
        subst h
        simp only [Frame.finish, ho, Option.bind_some, hdst]
        exact .drawn fn _ n _ ops rest idx (x :: D) G k k' ds ds' kd rd rd' (hD.advance ho hv (.inl ⟨d, hdst, Nat.le_of_ble_eq_true hlt, rfl, rfl⟩)) hk hd hr
    · rename_i hdst
      cases h
      simp only [Frame.finish, ho, Option.bind_some, hdst]
      exact .drawn fn _ n _ ops rest idx (x :: D) G k k' ds ds' kd rd rd' (hD.advance ho hv (.inr ⟨hdst, rfl, rfl⟩)) hk hd hr

end
end Go.Ideal
