/-
  Part of the proof: the machine that runs a program by fixed orders, and that each of its runs is a run of the model; or a run of it in parts. No conditions.
-/
import Derived.Test.YtidglbgpoagjlaaGreatDoorIdConc
namespace Go.Ideal
section
variable {X : Ctx} {base : Env} {W0 : World} {μ : Inj} {H : IHeap} {W : World}

/-- The machine does an operation that the ideal machine has done before. -/
theorem DRel.flush {μ' : Inj} {G' : List (Nat × Nat)} {ops : Array Oper} {t : Tr Value} {n j d : Nat} {tm : Array Value} {D : List Nat} {plan : List PE} {idx : List Nat} {G : List (Nat × Nat)} {Fact : Nat → Oper → Nat → Prop} {o : Oper} {v' : Value}
    (h : DRel X μ H ops t n tm D plan (j :: idx) G Fact) (ho : ops[j]? = some o) (hjD : j ∈ D) (hd : o.dst = some d) (hle : μ.le μ') (hv : VRel μ' (look t d) v')
    (hG : ∀ i b, i ≠ j → (i, b) ∈ G → b < H.next → μ b = none → (i, b) ∈ G' ∧ μ' b = none) (hsub : (G'.map Prod.snd).Sublist (G.map Prod.snd)) : DRel X μ' H ops t n (tm.setIfInBounds d v') D plan idx G' Fact := by
  obtain ⟨⟨o2, ho2, hdx⟩, hji, htopo⟩ := h.topo
  rw [ho] at ho2; cases ho2
  refine ⟨h.stat, h.wf, h.okp, htopo, ?_, h.dcl, by simp [h.sz], ?_, ?_, h.dlt, h.gnd.sublist hsub, fun b hb => h.glt b (hsub.subset hb)⟩
  · intro i oi hi hni
    by_cases e : i = j
    · subst e
      rw [ho] at hi; cases hi
      exact ⟨hjD, fun q hq hm => hdx q hq (by simp [hm])⟩
    · obtain ⟨h1, h2⟩ := h.clo i oi hi (by simp [e, hni])
      exact ⟨h1, fun q hq hm => h2 q hq (by simp [hm])⟩
  · intro u hu
    by_cases e : u = d
    · subst e
      rw [getD_set_same _ _ (by rw [h.sz]; exact h.dlt j o u ho hjD hd)]; exact hv
    · rw [getD_set_ne' _ _ e]
      refine (h.tmp u ?_).mono hle
      intro i oi hi hiD him
      rcases List.mem_cons.1 him with rfl | him
      · rw [ho] at hi; cases hi
        rw [hd]; simp; exact fun q => e q.symm
      · exact hu i oi hi hiD him
  · intro i oi hi hiD him
    have hij : i ≠ j := by rintro rfl; exact hji him
    obtain ⟨q, h1, h0, h2⟩ := h.pen i oi hi hiD (by simp [him])
    refine ⟨q, h1, h0, ?_⟩
    rcases h2 with h2 | h2 | ⟨a, b, c, hc, obj, mk, e1, e2, e3, e4, e5⟩
    · exact .inl h2
    · exact .inr (.inl h2)
    · obtain ⟨g1, g2⟩ := hG i c hij hc e3 e4
      exact .inr (.inr ⟨a, b, c, g1, obj, mk, e1, e2, e3, g2, e5⟩)

theorem nodup_snd {G : List (Nat × Nat)} (h : (G.map Prod.snd).Nodup) {i j b : Nat} (hi : (i, b) ∈ G) (hj : (j, b) ∈ G) : i = j := by
  induction G with
  | nil => cases hi
  | cons a G ih =>
    simp only [List.map_cons, List.nodup_cons] at h
    rcases List.mem_cons.1 hi with e1 | hi' <;> rcases List.mem_cons.1 hj with e2 | hj'
    · rw [← e1] at e2; cases e2; rfl
    · exact absurd (List.mem_map.2 ⟨_, hj', rfl⟩) (by rw [← e1] at h; exact h.1)
    · exact absurd (List.mem_map.2 ⟨_, hi', rfl⟩) (by rw [← e2] at h; exact h.1)
    · exact ih h.2 hi' hj'

/-- Operands that no pending operation gives are related. -/
theorem DRel.reads {ops : Array Oper} {t : Tr Value} {n j : Nat} {tm : Array Value} {D : List Nat} {plan : List PE} {idx : List Nat} {G : List (Nat × Nat)} {Fact : Nat → Oper → Nat → Prop} {o : Oper} (h : DRel X μ H ops t n tm D plan (j :: idx) G Fact) (ho : ops[j]? = some o) :
    ∀ u ∈ readsOf ops o, VRel μ (look t u) (tm.getD u Go.undef) := by
  intro u hu
  obtain ⟨⟨o2, ho2, hdx⟩, _, _⟩ := h.topo
  rw [ho] at ho2; cases ho2
  refine h.tmp u fun i oi hi hiD him e => ?_
  rcases stat_reads h.stat ho hi hu e with q | q
  · exact hdx i q him
  · obtain ⟨_, _, hc, _⟩ := h.pen i oi hi hiD him
    exact hc q.1

theorem cls_defer {P : Program} {o : Oper} (h : clsOf P o ≠ 2) : ∀ c, o.op ≠ .defer c := by
  intro c e
  unfold clsOf at h
  rw [e] at h
  exact h rfl

open Classical in
/-- The operands alone. -/
noncomputable def only (o : Oper) (ρ : Operand → Value) : Operand → Value := fun x => if x ∈ o.op.operands then ρ x else junk
theorem only_eq (o : Oper) (ρ : Operand → Value) : ∀ x ∈ o.op.operands, only o ρ x = ρ x := fun x hx => by simp [only, hx]
theorem only_rel {o : Oper} {ρ ρ' : Operand → Value} (h : ∀ x ∈ o.op.operands, VRel μ (ρ x) (ρ' x)) : ∀ x, VRel μ (only o ρ x) (ρ' x) := by
  intro x
  unfold only
  split
  · rename_i hx; exact h x hx
  · exact .junk _

theorem flush1 {ops : Array Oper} {t : Tr Value} {n j : Nat} {tm : Array Value} {D : List Nat} {plan : List PE} {idx : List Nat} {G : List (Nat × Nat)} {fn : FuncId} {k' : List Item} {ds' : List Deferred} {kd : CallKind} {rd' : Option Nat} {cs : List Frame}
    (hH : HRel base W0 μ H W) (hlaid : LaidRel X μ) (hD : DRel X μ H ops t n tm D plan (j :: idx) G (FactNow X H t plan)) (hjD : j ∈ D) (hnl : j ∉ lead plan) :
    ∃ μ' W' tm' G', step X.P (lone ⟨fn, tm, .inRegion ops (j :: idx) :: k', ds', .run, kd, rd'⟩ cs W) = .next (lone ⟨fn, tm', .inRegion ops idx :: k', ds', .run, kd, rd'⟩ cs W') ∧ HRel base W0 μ' H W' ∧
      DRel X μ' H ops t n tm' D plan idx G' (FactNow X H t plan) ∧ (∀ gs, (G.map Prod.snd ++ gs).Nodup → Keeps gs μ H μ' H) ∧ (G'.map Prod.snd).Sublist (G.map Prod.snd) := by
  obtain ⟨⟨o, ho, hdx⟩, hji, htopo⟩ := hD.topo
  have hreads := hD.reads ho
  obtain ⟨d, hd, _, hp⟩ := hD.pen j o ho hjD (by simp)
  have hwant : ∀ b, wantedI ops o t = some b → Region.wanted o (yielded ops tm) = b := fun b hb => wanted_rel' (fun q w u hg hu => hreads u (reads_guard hg hu)) hb
  have hev : ∀ x ∈ o.op.operands, VRel μ (ieval X t x) (Frame.eval ⟨fn, tm, .inRegion ops (j :: idx) :: k', ds', .run, kd, rd'⟩ x) := fun x hx => eval_rel' hlaid x fun u hu => hreads u (reads_tmp (by rw [← hu]; exact hx))
  have hfin : ∀ v, Frame.finish ⟨fn, tm, .inRegion ops (j :: idx) :: k', ds', .run, kd, rd'⟩ v = ⟨fn, tm.setIfInBounds d v, .inRegion ops idx :: k', ds', .run, kd, rd'⟩ := fun v => by simp only [Frame.finish, ho, Option.bind_some, hd]
  have hnd : clsOf X.P o ≠ 2 → ∀ c, o.op = .defer c → rd' = none := fun hc c e => absurd e (cls_defer hc c)
  rcases hp with ⟨hw, hl⟩ | ⟨hw, hc, hf⟩ | ⟨hw, hc, b, hb, obj, mk, e1, e2, e3, e4, e5⟩
  · refine ⟨μ, W, _, G, ?_, hH, hD.flush ho hjD hd (Inj.le_refl _) (v' := Go.undef) (by rw [hl]; exact VRel.undef μ) (fun i b _ hb _ hm => ⟨hb, hm⟩) (List.Sublist.refl _), fun gs _ => Keeps.refl _ _ _, List.Sublist.refl _⟩
    rw [c_opSkip ho (hwant false hw), hfin]
  · rcases hf with hf | ⟨H1, hf⟩
    · exact absurd hf hnl
    · obtain ⟨rfl, _⟩ := iop_zero hc hf
      rw [← iop_congr o (only_eq o (ieval X t))] at hf
      obtain ⟨μ', nx, v', W', r1, r2, r3, r4, r5⟩ := iop_sim hH (only_rel hev) hf
      refine ⟨μ', W', _, G, ?_, r3, hD.flush ho hjD hd r5.le r4 (fun i b _ hb hlt hm => ⟨hb, (r5.ghost b hlt hm).1⟩) (List.Sublist.refl _), fun gs _ => r5.keeps gs, List.Sublist.refl _⟩
      rw [c_op ho (hwant true hw) (hnd (by omega)) r1 r2, hfin]
  · have hio : iop X.P (only o (ieval X t)) o H = some (mk H.next, H.alloc obj) := by rw [iop_congr o (only_eq o (ieval X t))]; exact e2 H
    obtain ⟨obj2, mk2, q1, q2, q3, q4, q5⟩ := iop_one hc hio
    have hobj : obj2 = obj := by
      have := congrArg (fun h : IHeap => h.get H.next) q2
      simp only [IHeap.get_alloc, if_true] at this
      cases this; rfl
    have hmk : ∀ b, mk2 b = mk b := by
      intro b
      have h1 := q3 ⟨.leaf, b⟩
      rw [iop_congr o (only_eq o (ieval X t)), e2] at h1
      simp only [Option.some.injEq, Prod.mk.injEq] at h1
      exact h1.1.symm
    subst hobj
    obtain ⟨o', T, v', r1, r2, r3, r4⟩ := q5 μ W _ (only_rel hev)
    have hle := Inj.le_ext T e4
    have hsub : ((G.filter fun p => decide (p.2 ≠ b)).map Prod.snd).Sublist (G.map Prod.snd) := (List.filter_sublist).map _
    refine ⟨μ.ext b T, W.alloc o', _, G.filter fun p => decide (p.2 ≠ b), ?_, hH.settle e5 e4 r2 r3 q4.2, hD.flush ho hjD hd hle (by rw [e1, ← hmk]; exact r4 b) (fun i b' hij hb' _ hm => ?_) hsub, fun gs hnd => ?_, hsub⟩
    · rw [c_op ho (hwant true hw) (hnd (by omega)) r1 (.inl rfl), hfin]
    · have hne : b' ≠ b := by rintro rfl; exact hij (nodup_snd hD.gnd hb' hb)
      exact ⟨List.mem_filter.2 ⟨hb', by simp [hne]⟩, by rw [Inj.ext_ne _ _ hne]; exact hm⟩
    · refine ⟨hle, Nat.le_refl _, fun b' hb' _ hm => ⟨?_, rfl⟩⟩
      have hne : b' ≠ b := by
        rintro rfl
        exact (List.nodup_append.1 hnd).2.2 b' (List.mem_map.2 ⟨_, hb, rfl⟩) b' hb' rfl
      rw [Inj.ext_ne _ _ hne]; exact hm

/-- All that is pending. -/
theorem flushAll {ops : Array Oper} {t : Tr Value} {n : Nat} {D : List Nat} {plan : List PE} {fn : FuncId} {k' : List Item} {ds' : List Deferred} {kd : CallKind} {rd' : Option Nat} {cs : List Frame} {gs : List Nat} (hnl : lead plan = []) :
    ∀ (idx : List Nat) (μ : Inj) (W : World) (tm : Array Value) (G : List (Nat × Nat)), HRel base W0 μ H W → LaidRel X μ → DRel X μ H ops t n tm D plan idx G (FactNow X H t plan) → (∀ j ∈ idx, j ∈ D) → (G.map Prod.snd ++ gs).Nodup →
      ∃ μ' W' tm' G', Steps X.P (lone ⟨fn, tm, .inRegion ops idx :: k', ds', .run, kd, rd'⟩ cs W) (lone ⟨fn, tm', .inRegion ops [] :: k', ds', .run, kd, rd'⟩ cs W') ∧ HRel base W0 μ' H W' ∧ DRel X μ' H ops t n tm' D plan [] G' (FactNow X H t plan) ∧ Keeps gs μ H μ' H := by
  intro idx
  induction idx with
  | nil => intro μ W tm G hH _ hD _ _; exact ⟨μ, W, tm, G, .refl _ _, hH, hD, Keeps.refl _ _ _⟩
  | cons j idx ih =>
    intro μ W tm G hH hl hD hall hnd
    obtain ⟨μ1, W1, tm1, G1, h1, h2, h3, h4, h5⟩ := flush1 (fn := fn) (k' := k') (ds' := ds') (kd := kd) (rd' := rd') (cs := cs) hH hl hD (hall j (by simp)) (by rw [hnl]; simp)
    have hk := h4 gs hnd
    obtain ⟨μ2, W2, tm2, G2, q1, q2, q3, q4⟩ := ih μ1 W1 tm1 G1 h2 (hl.mono hk.le) h3 (fun j hj => hall j (by simp [hj])) (hnd.sublist (h5.append (List.Sublist.refl _)))
    exact ⟨μ2, W2, tm2, G2, .head h1 q1, q2, q3, hk.trans q4⟩

/-- All that comes before the operation that both do together. -/
theorem flushTo {ops : Array Oper} {t : Tr Value} {n x : Nat} {o : Oper} {D : List Nat} {rest : List PE} {fn : FuncId} {k' : List Item} {ds' : List Deferred} {kd : CallKind} {rd' : Option Nat} {cs : List Frame} {gs : List Nat} (hcls : clsOf X.P o = 2) :
    ∀ (idx : List Nat) (μ : Inj) (W : World) (tm : Array Value) (G : List (Nat × Nat)), HRel base W0 μ H W → LaidRel X μ → DRel X μ H ops t n tm D (.op x o :: rest) idx G (FactNow X H t (.op x o :: rest)) → x ∈ idx → (G.map Prod.snd ++ gs).Nodup →
      ∃ μ' W' tm' G' idx', Steps X.P (lone ⟨fn, tm, .inRegion ops idx :: k', ds', .run, kd, rd'⟩ cs W) (lone ⟨fn, tm', .inRegion ops (x :: idx') :: k', ds', .run, kd, rd'⟩ cs W') ∧ HRel base W0 μ' H W' ∧
        DRel X μ' H ops t n tm' D (.op x o :: rest) (x :: idx') G' (FactNow X H t (.op x o :: rest)) ∧ Keeps gs μ H μ' H ∧ (G'.map Prod.snd).Sublist (G.map Prod.snd) := by
  intro idx
  induction idx with
  | nil => intro μ W tm G _ _ _ hx; cases hx
  | cons j idx ih =>
    intro μ W tm G hH hl hD hx hnd
    by_cases e : j = x
    · subst e
      exact ⟨μ, W, tm, G, idx, .refl _ _, hH, hD, Keeps.refl _ _ _, List.Sublist.refl _⟩
    · have hjD : j ∈ D := by
        obtain ⟨⟨oj, hoj, hdx⟩, _, _⟩ := hD.topo
        obtain ⟨_, _, _, hc⟩ := okPlan_op hD.okp
        rcases (hc hcls).1 j oj hoj with h1 | h1 | h1
        · exact h1
        · exact absurd h1 e
        · exfalso
          refine anc_sub (ops := ops.toList) (fun i => i ∉ j :: idx) (fun i oi hi hni => ?_) _ _ _ (fun q hq => hdx q hq) (fun q hq => by cases hq) x h1 hx
          rw [Array.getElem?_toList] at hi
          exact (hD.clo i oi hi hni).2
      obtain ⟨μ1, W1, tm1, G1, h1, h2, h3, h4, h5⟩ := flush1 (fn := fn) (k' := k') (ds' := ds') (kd := kd) (rd' := rd') (cs := cs) hH hl hD hjD (by simp [lead])
      have hk := h4 gs hnd
      have hx' : x ∈ idx := by
        rcases List.mem_cons.1 hx with h | h
        · exact absurd h.symm e
        · exact h
      obtain ⟨μ2, W2, tm2, G2, idx2, q1, q2, q3, q4, q5⟩ := ih μ1 W1 tm1 G1 h2 (hl.mono hk.le) h3 hx' (hnd.sublist (h5.append (List.Sublist.refl _)))
      exact ⟨μ2, W2, tm2, G2, idx2, .head h1 q1, q2, q3, hk.trans q4, q5.trans h5⟩

/-- Nothing but what is looked at again is pending then. -/
theorem DRel.suspend {ops : Array Oper} {t : Tr Value} {n x : Nat} {tm : Array Value} {o : Oper} {D : List Nat} {rest : List PE} {idx : List Nat} {G : List (Nat × Nat)} (hcls : clsOf X.P o = 2) (hx : ops[x]? = some o)
    (h : DRel X μ H ops t n tm D (.op x o :: rest) (x :: idx) G (FactNow X H t (.op x o :: rest))) : DRel X μ H ops t n tm D (.op x o :: rest) (x :: idx) G (FactSusp rest) := by
  refine ⟨h.stat, h.wf, h.okp, h.topo, h.clo, h.dcl, h.sz, h.tmp, fun i oi hi hiD him => ?_, h.dlt, h.gnd, h.glt⟩
  refine (h.pen i oi hi hiD him).congr (fun _ _ => rfl) (fun _ _ => rfl) fun d _ _ hc0 _ => ?_
  obtain ⟨_, _, _, hc⟩ := okPlan_op h.okp
  obtain ⟨⟨o2, ho2, hdx⟩, _, _⟩ := h.topo
  rw [hx] at ho2; cases ho2
  rcases (hc hcls).2 i oi hiD hi hc0 with h1 | h1
  · exfalso
    refine anc_sub (ops := ops.toList) (fun q => q ∉ x :: idx) (fun q oq hq hnq => ?_) _ _ _ (fun q hq => hdx q hq) (fun q hq => by cases hq) i h1 him
    rw [Array.getElem?_toList] at hq
    exact (h.clo q oq hq hnq).2
  · exact h1

end
end Go.Ideal
