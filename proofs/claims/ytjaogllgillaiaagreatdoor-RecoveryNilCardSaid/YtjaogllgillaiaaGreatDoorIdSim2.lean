/-
  Part of the proof: the machine that runs a program by fixed orders, and that each of its runs is a run of the model; or a run of it in parts. No conditions.
-/
import Derived.Test.YtjaogllgillaiaaGreatDoorIdConc
namespace Go.Ideal
section
variable {X : Ctx} {base : Env} {W0 : World} {μ : Inj} {H : IHeap} {W : World}

/-- The machine does an operation that the ideal machine has done before. -/
theorem DRel.flush {μ' : Inj} {G' : List (Nat × Nat)} {ops : Array Oper} {t : Tr Value} {n j d : Nat} {tm : Array Value} {D : List Nat} {plan : List PE} {idx : List Nat} {G : List (Nat × Nat)} {Fact : Nat → Oper → Nat → Prop} {o : Oper} {v' : Value}
    (h : DRel X μ H ops t n tm D plan (j :: idx) G Fact) (ho : ops[j]? = some o) (hjD : j ∈ D) (hd : o.dst = some d) (hle : μ.le μ') (hv : VRel μ' (look t d) v')
    (hG : ∀ i b, i ≠ j → (i, b) ∈ G → b < H.next → μ b = none → (i, b) ∈ G' ∧ μ' b = none) (hsub : (G'.map Prod.snd).Sublist (G.map Prod.snd)) : DRel X μ' H ops t n (tm.setIfInBounds d v') D plan idx G' Fact := by
  obtain ⟨⟨o2, ho2, hdx⟩, hji, htopo⟩ := h.topo
  rw [ho] at ho2; cases ho2
  refine ⟨h.stat, h.wf, h.okp, htopo, ?_, h.dcl, by simp [h.sz], ?_, ?_, h.dlt, h.gnd.sublist hsub, fun b hb => h.glt b (hsub.subset hb)⟩
  · intro i oi hi hni
    by_cases e : i = j
    · subst e
      rw [ho] at hi; cases hi
      exact ⟨hjD, fun q hq hm => hdx q hq (by simp [hm])⟩
    · obtain ⟨h1, h2⟩ := h.clo i oi hi (by simp [e, hni])
      exact ⟨h1, fun q hq hm => h2 q hq (by simp [hm])⟩
  · intro u hu
    by_cases e : u = d
    · subst e
      rw [getD_set_same _ _ (by rw [h.sz]; exact h.dlt j o u ho hjD hd)]; exact hv
    · rw [getD_set_ne' _ _ e]
      refine (h.tmp u ?_).mono hle
      intro i oi hi hiD him
      rcases List.mem_cons.1 him with rfl | him
      · rw [ho] at hi; cases hi
        rw [hd]; simp; exact fun q => e q.symm
      · exact hu i oi hi hiD him
  · intro i oi hi hiD him
    have hij : i ≠ j := by rintro rfl; exact hji him
    obtain ⟨q, h1, h0, h2⟩ := h.pen i oi hi hiD (by simp [him])
    refine ⟨q, h1, h0, ?_⟩
    rcases h2 with h2 | h2 | ⟨a, b, c, hc, obj, mk, e1, e2, e3, e4, e5⟩
    · exact .inl h2
    · exact .inr (.inl h2)
    · obtain ⟨g1, g2⟩ := hG i c hij hc e3 e4
      exact .inr (.inr ⟨a, b, c, g1, obj, mk, e1, e2, e3, g2, e5⟩)

theorem nodup_snd {G : List (Nat × Nat)} (h : (G.map Prod.snd).Nodup) {i j b : Nat} (hi : (i, b) ∈ G) (hj : (j, b) ∈ G) : i = j := by
  induction G with
  | nil => cases hi
  | cons a G ih =>
    simp only [List.map_cons, List.nodup_cons] at h
    rcases List.mem_cons.1 hi with e1 | hi' <;> rcases List.mem_cons.1 hj with e2 | hj'
    · rw [← e1] at e2; cases e2; rfl
    · exact absurd (List.mem_map.2 ⟨_, hj', rfl⟩) (by rw [← e1] at h; exact h.1)
    · exact absurd (List.mem_map.2 ⟨_, hi', rfl⟩) (by rw [← e2] at h; exact h.1)
    · exact ih h.2 hi' hj'

/-- Operands that no pending operation gives are related. -/
theorem DRel.reads {ops : Array Oper} {t : Tr Value} {n j : Nat} {tm : Array Value} {D : List Nat} {plan : List PE} {idx : List Nat} {G : List (Nat × Nat)} {Fact : Nat → Oper → Nat → Prop} {o : Oper} (h : DRel X μ H ops t n tm D plan (j :: idx) G Fact) (ho : ops[j]? = some o) :
    ∀ u ∈ readsOf ops o, VRel μ (look t u) (tm.getD u Go.undef) := by
  intro u hu
  obtain ⟨⟨o2, ho2, hdx⟩, _, _⟩ := h.topo
  rw [ho] at ho2; cases ho2
  refine h.tmp u fun i oi hi hiD him e => ?_
  rcases stat_reads h.stat ho hi hu e with q | q
  · exact hdx i q him
  · obtain ⟨_, _, hc, _⟩ := h.pen i oi hi hiD him
    exact hc q.1

theorem cls_defer {P : Program} {o : Oper} (h : clsOf P o ≠ 2) : ∀ c, o.op ≠ .defer c := by
  intro c e
  unfold clsOf at h
  rw [e] at h
  exact h rfl

open Classical in
/-- The operands alone. -/
noncomputable def only (o : Oper) (ρ : Operand → Value) : Operand → Value := fun x => if x ∈ o.op.operands then ρ x else junk
theorem only_eq (o : Oper) (ρ : Operand → Value) : ∀ x ∈ o.op.operands, only o ρ x = ρ x := fun x hx => by simp [only, hx]
theorem only_rel {o : Oper} {ρ ρ' : Operand → Value} (h : ∀ x ∈ o.op.operands, VRel μ (ρ x) (ρ' x)) : ∀ x, VRel μ (only o ρ x) (ρ' x) := by
  intro x
  unfold only
  split
  · rename_i hx; exact h x hx
  · exact .junk _

theorem flush1 {ops : Array Oper} {t : Tr Value} {n j : Nat} {tm : Array Value} {D : List Nat} {plan : List PE} {idx : List Nat} {G : List (Nat × Nat)} {fn : FuncId} {k' : List Item} {ds' : List Deferred} {kd : CallKind} {rd' : Option Nat} {cs : List Frame}
    (hH : HRel base W0 μ H W) (hlaid : LaidRel X μ) (hD : DRel X μ H ops t n tm D plan (j :: idx) G (FactNow X H t plan)) (hjD : j ∈ D) (hnl : j ∉ lead plan) :
    ∃ μ' W' tm' G', step X.P (lone ⟨fn, tm, .inRegion ops (j :: idx) :: k', ds', .run, kd, rd'⟩ cs W) = .next (lone ⟨fn, tm', .inRegion ops idx :: k', ds', .run, kd, rd'⟩ cs W') ∧ HRel base W0 μ' H W' ∧
      DRel X μ' H ops t n tm' D plan idx G' (FactNow X H t plan) ∧ (∀ gs, (G.map Prod.snd ++ gs).Nodup → Keeps gs μ H μ' H) ∧ (G'.map Prod.snd).Sublist (G.map Prod.snd) := by
  obtain ⟨⟨o, ho, hdx⟩, hji, htopo⟩ := hD.topo
  have hreads := hD.reads ho
  obtain ⟨d, hd, _, hp⟩ := hD.pen j o ho hjD (by simp)
  have hwant : ∀ b, wantedI ops o t = some b → Region.wanted o (yielded ops tm) = b := fun b hb => wanted_rel' (fun q w u hg hu => hreads u (reads_guard hg hu)) hb
  have hev : ∀ x ∈ o.op.operands, VRel μ (ieval X t x) (Frame.eval ⟨fn, tm, .inRegion ops (j :: idx) :: k', ds', .run, kd, rd'⟩ x) := fun x hx => eval_rel' hlaid x fun u hu => hreads u (reads_tmp (by rw [← hu]; exact hx))
  have hfin : ∀ v, Frame.finish ⟨fn, tm, .inRegion ops (j :: idx) :: k', ds', .run, kd, rd'⟩ v = ⟨fn, tm.setIfInBounds d v, .inRegion ops idx :: k', ds', .run, kd, rd'⟩ := fun v => by simp only [Frame.finish, ho, Option.bind_some, hd]
  have hnd : clsOf X.P o ≠ 2 → ∀ c, o.op = .defer c → rd' = none := fun hc c e => absurd e (cls_defer hc c)
  rcases hp with ⟨hw, hl⟩ | ⟨hw, hc, hf⟩ | ⟨hw, hc, b, hb, obj, mk, e1, e2, e3, e4, e5⟩
  · refine ⟨μ, W, _, G, ?_, hH, hD.flush ho hjD hd (Inj.le_refl _) (v' := Go.undef) (by rw [hl]; exact VRel.undef μ) (fun i b _ hb _ hm => ⟨hb, hm⟩) (List.Sublist.refl _), fun gs _ => Keeps.refl _ _ _, List.Sublist.refl _⟩
    rw [c_opSkip ho (hwant false hw), hfin]
  · rcases hf with hf | ⟨H1, hf⟩
    · exact absurd hf hnl
    · obtain ⟨rfl, _⟩ := iop_zero hc hf
      rw [← iop_congr o (only_eq o (ieval X t))] at hf
      obtain ⟨μ', nx, v', W', r1, r2, r3, r4, r5⟩ := iop_sim hH (only_rel hev) hf
      refine ⟨μ', W', _, G, ?_, r3, hD.flush ho hjD hd r5.le r4 (fun i b _ hb hlt hm => ⟨hb, (r5.ghost b hlt hm).1⟩) (List.Sublist.refl _), fun gs _ => r5.keeps gs, List.Sublist.refl _⟩
      rw [c_op ho (hwant true hw) (hnd (by omega)) r1 r2, hfin]
  · have hio : iop X.P (only o (ieval X t)) o H = some (mk H.next, H.alloc obj) := by rw [iop_congr o (only_eq o (ieval X t))]; exact e2 H
    obtain ⟨obj2, mk2, q1, q2, q3, q4, q5⟩ := iop_one hc hio
    have hobj : obj2 = obj := by
      have := congrArg (fun h : IHeap => h.get H.next) q2
      simp only [IHeap.get_alloc, if_true] at this
      cases this; rfl
    have hmk : ∀ b, mk2 b = mk b := by
      intro b
      have h1 := q3 ⟨.leaf, b⟩
      rw [iop_congr o (only_eq o (ieval X t)), e2] at h1
      simp only [Option.some.injEq, Prod.mk.injEq] at h1
      exact h1.1.symm
    subst hobj
    obtain ⟨o', T, v', r1, r2, r3, r4⟩ := q5 μ W _ (only_rel hev)
    have hle := Inj.le_ext T e4
    have hsub : ((G.filter fun p => decide (p.2 ≠ b)).map Prod.snd).Sublist (G.map Prod.snd) := (List.filter_sublist).map _
    refine ⟨μ.ext b T, W.alloc o', _, G.filter fun p => decide (p.2 ≠ b), ?_, hH.settle e5 e4 r2 r3 q4.2, hD.flush ho hjD hd hle (by rw [e1, ← hmk]; exact r4 b) (fun i b' hij hb' _ hm => ?_) hsub, fun gs hnd => ?_, hsub⟩
    · rw [c_op ho (hwant true hw) (hnd (by omega)) r1 (.inl rfl), hfin]
    · have hne : b' ≠ b := by rintro rfl; exact hij (nodup_snd hD.gnd hb' hb)
      exact ⟨List.mem_filter.2 ⟨hb', by simp [hne]⟩, by rw [Inj.ext_ne _ _ hne]; exact hm⟩
    · refine ⟨hle, Nat.le_refl _, fun b' hb' _ hm => ⟨?_, rfl⟩⟩
      have hne : b' ≠ b := by
        rintro rfl
        exact (List.nodup_append.1 hnd).2.2 b' (List.mem_map.2 ⟨_, hb, rfl⟩) b' hb' rfl
      rw [Inj.ext_ne _ _ hne]; exact hm

/-- All that is pending. -/
theorem flushAll {ops : Array Oper} {t : Tr Value} {n : Nat} {D : List Nat} {plan : List PE} {fn : FuncId} {k' : List Item} {ds' : List Deferred} {kd : CallKind} {rd' : Option Nat} {cs : List Frame} {gs : List Nat} (hnl : lead plan = []) :
    ∀ (idx : List Nat) (μ : Inj) (W : World) (tm : Array Value) (G : List (Nat × Nat)), HRel base W0 μ H W → LaidRel X μ → DRel X μ H ops t n tm D plan idx G (FactNow X H t plan) → (∀ j ∈ idx, j ∈ D) → (G.map Prod.snd ++ gs).Nodup →
      ∃ μ' W' tm' G', Steps X.P (lone ⟨fn, tm, .inRegion ops idx :: k', ds', .run, kd, rd'⟩ cs W) (lone ⟨fn, tm', .inRegion ops [] :: k', ds', .run, kd, rd'⟩ cs W') ∧ HRel base W0 μ' H W' ∧ DRel X μ' H ops t n tm' D plan [] G' (FactNow X H t plan) ∧ Keeps gs μ H μ' H := by
  intro idx
  induction idx with
  | nil => intro μ W tm G hH _ hD _ _; exact ⟨μ, W, tm, G, .refl _ _, hH, hD, Keeps.refl _ _ _⟩
  | cons j idx ih =>
    intro μ W tm G hH hl hD hall hnd
    obtain ⟨μ1, W1, tm1, G1, h1, h2, h3, h4, h5⟩ := flush1 (fn := fn) (k' := k') (ds' := ds') (kd := kd) (rd' := rd') (cs := cs) hH hl hD (hall j (by simp)) (by rw [hnl]; simp)
    have hk := h4 gs hnd
    obtain ⟨μ2, W2, tm2, G2, q1, q2, q3, q4⟩ := ih μ1 W1 tm1 G1 h2 (hl.mono hk.le) h3 (fun j hj => hall j (by simp [hj])) (hnd.sublist (h5.append (List.Sublist.refl _)))
    exact ⟨μ2, W2, tm2, G2, .head h1 q1, q2, q3, hk.trans q4⟩

/-- All that comes before the operation that both do together. -/
theorem flushTo {ops : Array Oper} {t : Tr Value} {n x : Nat} {o : Oper} {D : List Nat} {rest : List PE} {fn : FuncId} {k' : List Item} {ds' : List Deferred} {kd : CallKind} {rd' : Option Nat} {cs : List Frame} {gs : List Nat} (hcls : clsOf X.P o = 2) :
    ∀ (idx : List Nat) (μ : Inj) (W : World) (tm : Array Value) (G : List (Nat × Nat)), HRel base W0 μ H W → LaidRel X μ → DRel X μ H ops t n tm D (.op x o :: rest) idx G (FactNow X H t (.op x o :: rest)) → x ∈ idx → (G.map Prod.snd ++ gs).Nodup →
      ∃ μ' W' tm' G' idx', Steps X.P (lone ⟨fn, tm, .inRegion ops idx :: k', ds', .run, kd, rd'⟩ cs W) (lone ⟨fn, tm', .inRegion ops (x :: idx') :: k', ds', .run, kd, rd'⟩ cs W') ∧ HRel base W0 μ' H W' ∧
        DRel X μ' H ops t n tm' D (.op x o :: rest) (x :: idx') G' (FactNow X H t (.op x o :: rest)) ∧ Keeps gs μ H μ' H ∧ (G'.map Prod.snd).Sublist (G.map Prod.snd) := by
  intro idx
  induction idx with
  | nil => intro μ W tm G _ _ _ hx; cases hx
  | cons j idx ih =>
    intro μ W tm G hH hl hD hx hnd
    by_cases e : j = x
    · subst e
      exact ⟨μ, W, tm, G, idx, .refl _ _, hH, hD, Keeps.refl _ _ _, List.Sublist.refl _⟩
    · have hjD : j ∈ D := by
        obtain ⟨⟨oj, hoj, hdx⟩, _, _⟩ := hD.topo
        obtain ⟨_, _, _, hc⟩ := okPlan_op hD.okp
        rcases (hc hcls).1 j oj hoj with h1 | h1 | h1
        · exact h1
        · exact absurd h1 e
        · exfalso
          refine anc_sub (ops := ops.toList) (fun i => i ∉ j :: idx) (fun i oi hi hni => ?_) _ _ _ (fun q hq => hdx q hq) (fun q hq => by cases hq) x h1 hx
          rw [Array.getElem?_toList] at hi
          exact (hD.clo i oi hi hni).2
      obtain ⟨μ1, W1, tm1, G1, h1, h2, h3, h4, h5⟩ := flush1 (fn := fn) (k' := k') (ds' := ds') (kd := kd) (rd' := rd') (cs := cs) hH hl hD hjD (by simp [lead])
      have hk := h4 gs hnd
      have hx' : x ∈ idx := by
        rcases List.mem_cons.1 hx with h | h
        · exact absurd h.symm e
        · exact h
      obtain ⟨μ2, W2, tm2, G2, idx2, q1, q2, q3, q4, q5⟩ := ih μ1 W1 tm1 G1 h2 (hl.mono hk.le) h3 hx' (hnd.sublist (h5.append (List.Sublist.refl _)))
      exact ⟨μ2, W2, tm2, G2, idx2, .head h1 q1, q2, q3, hk.trans q4, q5.trans h5⟩

/-- Nothing but what is looked at again is pending then. -/
theorem DRel.suspend {ops : Array Oper} {t : Tr Value} {n x : Nat} {tm : Array Value} {o : Oper} {D : List Nat} {rest : List PE} {idx : List Nat} {G : List (Nat × Nat)} (hcls : clsOf X.P o = 2) (hx : ops[x]? = some o)
    (h : DRel X μ H ops t n tm D (.op x o :: rest) (x :: idx) G (FactNow X H t (.op x o :: rest))) : DRel X μ H ops t n tm D (.op x o :: rest) (x :: idx) G (FactSusp rest) := by
  refine ⟨h.stat, h.wf, h.okp, h.topo, h.clo, h.dcl, h.sz, h.tmp, fun i oi hi hiD him => ?_, h.dlt, h.gnd, h.glt⟩
  refine (h.pen i oi hi hiD him).congr (fun _ _ => rfl) (fun _ _ => rfl) fun d _ _ hc0 _ => ?_
  obtain ⟨_, _, _, hc⟩ := okPlan_op h.okp
  obtain ⟨⟨o2, ho2, hdx⟩, _, _⟩ := h.topo
  rw [hx] at ho2; cases ho2
  rcases (hc hcls).2 i oi hiD hi hc0 with h1 | h1
  · exfalso
    refine anc_sub (ops := ops.toList) (fun q => q ∉ x :: idx) (fun q oq hq hnq => ?_) _ _ _ (fun q hq => hdx q hq) (fun q hq => by cases hq) i h1 him
    rw [Array.getElem?_toList] at hq
    exact (h.clo q oq hq hnq).2
  · exact h1

end
end Go.Ideal

namespace Go.Ideal
section
variable {X : Ctx} {base : Env} {W0 : World} {μ : Inj} {H : IHeap} {W : World}

/-! Entering. -/
theorem replicate_getD (n i : Nat) : (Array.replicate n Go.undef).getD i Go.undef = Go.undef := by
  rw [Array.getD_eq_getD_getElem?, Array.getElem?_replicate]; split <;> rfl
theorem fill_get : ∀ (args : List Value) (i0 : Nat) (t : Tr Value) (j : Nat), (fillTmps i0 args t).get j = if i0 ≤ j ∧ j < i0 + args.length then args[j - i0]? else t.get j := by
  intro args
  induction args with
  | nil => intro i0 t j; simp [fillTmps]; omega
  | cons v r ih =>
    intro i0 t j
    simp only [fillTmps]
    rw [ih, Tr.get_put]
    by_cases h1 : j = i0
    · subst h1
      rw [if_neg (by omega), if_pos rfl, if_pos (by simp)]
      simp
    · by_cases h2 : i0 + 1 ≤ j ∧ j < i0 + 1 + r.length
      · rw [if_pos h2, if_pos (by simp; omega)]
        obtain ⟨q, rfl⟩ : ∃ q, j = i0 + 1 + q := ⟨j - (i0 + 1), by omega⟩
        have e1 : i0 + 1 + q - (i0 + 1) = q := by omega
        have e2 : i0 + 1 + q - i0 = q + 1 := by omega
        rw [e1, e2, List.getElem?_cons_succ]
      · rw [if_neg h2, if_neg h1, if_neg (by simp; omega)]
theorem enter_rel {args : List Value} {args' : Array Value} {n : Nat} (ha : LRel μ args args'.toList) (hn : args.length ≤ n) : TRel μ (fillTmps 0 args .leaf) n (args' ++ Array.replicate (n - args'.size) Go.undef) := by
  have hl : args.length = args'.size := by have := ha.length; simpa using this
  refine ⟨by simp; omega, fun i => ?_⟩
  unfold look
  rw [fill_get]
  by_cases hi : i < args.length
  · rw [if_pos ⟨Nat.zero_le _, by omega⟩]
    obtain ⟨v', h1, h2⟩ := ha.get? (List.getElem?_eq_getElem hi)
    rw [Array.getElem?_toList] at h1
    have : (args' ++ Array.replicate (n - args'.size) Go.undef).getD i Go.undef = v' := by
      rw [Array.getD_eq_getD_getElem?, Array.getElem?_append_left (by omega), h1]; rfl
    rw [this]
    simp only [Nat.sub_zero, List.getElem?_eq_getElem hi, Option.getD_some]
    exact h2
  · rw [if_neg (by omega), Tr.get_leaf]
    have : (args' ++ Array.replicate (n - args'.size) Go.undef).getD i Go.undef = Go.undef := by
      rw [Array.getD_eq_getD_getElem?, Array.getElem?_append_right (by omega), Array.getElem?_replicate]; split <;> rfl
    rw [this]
    exact VRel.junk _

theorem entry_eq {P : Program} {f : FuncId} {n : Nat} {c : Code} (h : entry P f = some (n, c)) : ∃ fn, P.funcs[f]? = some fn ∧ fn.body = some c ∧ fn.ntmps = n ∧ (fn.name == "runtime.NumGoroutine") = false := by
  unfold entry at h
  split at h
  · rename_i fn hf
    split at h
    · rename_i b hb
      cases hn : (fn.name == "runtime.NumGoroutine")
      · rw [hn] at h; cases h; exact ⟨fn, hf, hb, rfl, hn⟩
      · rw [hn] at h; cases h
    · cases h
  · cases h
theorem run_callFunc {P : Program} {f : FuncId} {n : Nat} {c : Code} (h : entry P f = some (n, c)) (args : Array Value) (w : World) : (callFunc f args).run P w = .ok (.enter f args) w := by
  obtain ⟨fn, h1, h2, h3, h4⟩ := entry_eq h
  have h5 : ¬ fn.name = "runtime.NumGoroutine" := by simpa using h4
  simp [callFunc, h1, h2, h5]
theorem enter_eq {P : Program} {f : FuncId} {n : Nat} {c : Code} (h : entry P f = some (n, c)) (args : Array Value) (kind : CallKind) :
    Frame.enter P f args kind = ⟨f, args ++ Array.replicate (n - args.size) Go.undef, [.code c], [], .run, kind, none⟩ := by
  obtain ⟨fn, h1, h2, h3, h4⟩ := entry_eq h
  simp [Frame.enter, h1, h2, h3]

/-- What is demanded of a function that is taken by its contract. -/
def IntrOk (X : Ctx) (base : Env) (W0 : World) : Prop := ∀ f F, X.intr f = some F → (∃ n c, entry X.P f = some (n, c)) ∧ ∀ μ H W (args : List Value) (args' : Array Value) v H', HRel base W0 μ H W → LaidRel X μ → LRel μ args args'.toList → F args H = some (v, H') →
  Calls X.P f args' W fun e W' => ∃ v' μ', e = .returned v' ∧ HRel base W0 μ' H' W' ∧ VRel μ' v v' ∧ Evolve μ H μ' H'

theorem flats_eq : ∀ (l l' : List Value), l.all flat = true → LRel μ l l' → l' = l
  | [], _, _, h => by cases h; rfl
  | a :: l, _, hf, h => by
    simp only [List.all_cons, Bool.and_eq_true] at hf
    cases h with
    | cons h1 h2 => rw [flat_eq hf.1 h1, flats_eq l _ hf.2 h2]

/-- A call that the machine makes with one step: the frame waits. -/
theorem enterI_sim (hok : IntrOk X base W0) {g gs : List Nat} {fr : IFrame} {cs : List IFrame} {fr' : Frame} {cs' cs0 : List Frame} {f : FuncId} {args : List Value} {args' : Array Value} {c' : Cfg} {m : Machine}
    (hH : HRel base W0 μ H W) (hlaid : LaidRel X μ) (hfr : FRel X μ H g fr fr') (hcs : FsRel X μ H gs cs cs') (hnd : (g ++ gs).Nodup) (ha : LRel μ args args'.toList)
    (hm : ∀ n c, entry X.P f = some (n, c) → Steps X.P m (lone (Frame.enter X.P f args' .normal) (fr' :: (cs' ++ cs0)) W))
    (hmv : ∀ v, (callFunc f args').run X.P W = .ok (.value v) W → Steps X.P m (lone (fr'.finish v) (cs' ++ cs0) W)) (hi : enterI X f args .normal fr cs H = some c') :
    StepSim X base W0 cs0 c' m := by
  unfold enterI at hi
  cases hat : intrAt X f args .normal H with
  | none =>
    simp only [hat] at hi
    split at hi
    · rename_i n c he
      cases hle : Nat.ble args.length n
      · simp [hle] at hi
      · simp only [hle, cond_true, Option.some.injEq] at hi
        subst hi
        refine ⟨μ, _, fr' :: cs', W, hm n c he, hH, hlaid, [], g ++ gs, ?_, .cons hfr hcs, hnd⟩
        rw [enter_eq he]
        exact .plain f _ n _ _ _ [] [] false .normal none none (enter_rel ha (Nat.le_of_ble_eq_true hle)) (.cons (.code c) .nil) .nil .none
    · cases hf : args.all flat
      · simp only [hf, cond_false] at hi; cases hi
      · simp only [hf, cond_true] at hi
        split at hi
        · rename_i v hp
          cases hfv : flat v
          · simp only [hfv, cond_false] at hi; cases hi
          · simp only [hfv, cond_true] at hi
            split at hi
            · rename_i fr1 hfin
              cases hi
              have he : args' = ⟨args⟩ := by rw [← Array.toList_inj]; exact flats_eq args _ hf ha
              have hrun : (callFunc f args').run X.P W = .ok (.value v) W := by rw [he]; exact pureRun_run hp W
              exact ⟨μ, _, cs', W, hmv v hrun, hH, hlaid, g, gs, finish_rel hfr (flat_refl hfv) hfin, hcs, hnd⟩
            · cases hi
        · cases hi
  | some p =>
    obtain ⟨v, H'⟩ := p
    simp only [hat] at hi
    obtain ⟨F, hin, hF⟩ : ∃ F, X.intr f = some F ∧ F args H = some (v, H') := by
      unfold intrAt at hat
      split at hat
      · rename_i F e; exact ⟨F, e, hat⟩
      · cases hat
    · split at hi
      · rename_i fr1 hfin
        cases hi
        obtain ⟨⟨n, c, he⟩, hc⟩ := hok f F hin
        obtain ⟨e, w', fx, ⟨v', μ', rfl, h1, h2, h3⟩, hcomes, hfn, hleave⟩ := hc μ H W args args' v H' hH hlaid ha hF (fr' :: (cs' ++ cs0))
        exact ⟨μ', fr'.finish v', cs', w', (hm n c he).trans (Steps.trans hcomes (.one (step_leave_returned hleave))), h1, hlaid.mono h3.le, g, gs, finish_rel (hfr.mono (h3.keeps g)) h2 hfin, hcs.mono (h3.keeps gs), hnd⟩
      · cases hi

theorem setParams_rel : ∀ (ps : List Tmp) (vs vs' : List Value) (t : Tr Value) (n : Nat) (a : Array Value), TRel μ t n a → LRel μ vs vs' → ps.all (fun p => Nat.blt p n) = true →
    TRel μ (setParams ps vs t) n ((ps.zip vs').foldl (fun (tm : Array Value) (x : Tmp × Value) => tm.setIfInBounds x.1 x.2) a) := by
  intro ps
  induction ps with
  | nil => intro vs vs' t n a ht _ _; simpa [setParams] using ht
  | cons p ps ih =>
    intro vs vs' t n a ht hv hp
    simp only [List.all_cons, Bool.and_eq_true] at hp
    cases hv with
    | nil => simpa [setParams] using ht
    | cons h1 h2 =>
      simp only [setParams, List.zip_cons_cons, List.foldl_cons]
      exact ih _ _ _ n _ (ht.put (Nat.le_of_ble_eq_true hp.1) h1) h2 hp.2

theorem yieldI_sim {g gs : List Nat} {fr : IFrame} {cs : List IFrame} {fr' : Frame} {cs' cs0 : List Frame} {l : Nat} {T : Tgt} {args : List Value} {args' : Array Value} {c' : Cfg} {m : Machine}
    (hH : HRel base W0 μ H W) (hlaid : LaidRel X μ) (hfr : FRel X μ H g fr fr') (hcs : FsRel X μ H gs cs cs') (hnd : (g ++ gs).Nodup) (ha : LRel μ args args'.toList) (hl : μ l = some T)
    (hm : ∀ f t a b, (Instr.yield T.c args').run X.P W = .ok (.round T.c f t a b) W → Steps X.P m (lone (Frame.round T.c f t a b .normal) (fr' :: (cs' ++ cs0)) W)) (hi : yieldI l args fr cs H = some c') :
    StepSim X base W0 cs0 c' m := by
  unfold yieldI at hi
  split at hi
  · rename_i r hget
    cases hc : (Nat.beq args.length r.params.size && r.params.toList.all (fun p => Nat.blt p r.n))
    · simp only [hc, cond_false] at hi; cases hi
    · simp only [hc, cond_true, Option.some.injEq] at hi
      subst hi
      simp only [Bool.and_eq_true] at hc
      have hlen := Nat.eq_of_beq_eq_true hc.1
      obtain ⟨o', ho', hor⟩ := hH.obj l _ hget T hl
      cases hor with
      | loop _ a R ht hd =>
        have hsz : args'.size = r.params.size := by
          have : args.length = args'.size := by simpa using ha.length
          omega
        have hrun : (Instr.yield T.c args').run X.P W = .ok (.round T.c r.fn ((r.params.zip args').foldl (fun tmps (t, a) => tmps.setIfInBounds t a) a) r.assign r.body) W := by
          simp [Instr.yield, run_getLoop (P := X.P) ho', hsz]
        refine ⟨μ, _, fr' :: cs', W, hm _ _ _ _ hrun, hH, hlaid, [], g ++ gs, ?_, .cons hfr hcs, hnd⟩
        have := setParams_rel r.params.toList args args'.toList r.tmps r.n a ht ha hc.2
        refine .plain r.fn _ r.n _ _ _ [] [] false .normal (some l) (some T.c) ?_ (.cons (.code _) (.cons .beginRound (.cons (.code _) .nil))) .nil (.some l T hl)
        rw [← Array.foldl_toList, Array.toList_zip]
        exact this
  · cases hi

end
end Go.Ideal
