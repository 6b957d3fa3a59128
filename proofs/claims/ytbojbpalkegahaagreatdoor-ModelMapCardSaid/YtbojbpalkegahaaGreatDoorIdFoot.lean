/-
  Part of the proof: the machine that runs a program by fixed orders, and that each of its runs is a run of the model; or a run of it in parts. No conditions.
-/
import Derived.Test.YtbojbpalkegahaaGreatDoorIdConc
import Derived.Test.YtbojbpalkegahaaGreatDoorIdVec
namespace Go.Ideal
section
variable {X : Ctx} {base : Env} {W0 : World} {μ : Inj} {H : IHeap} {W : World}

theorem DRel.flush {μ' : Inj} {G' : List (Nat × Nat)} {ops : Array Oper} {t : Tr Value} {n j d : Nat} {tm : Array Value} {D : List Nat} {plan : List PE} {idx : List Nat} {G : List (Nat × Nat)} {Fact : Nat → Oper → Nat → Prop} {o : Oper} {v' : Value}
    (h : DRel X μ H ops t n tm D plan (j :: idx) G Fact) (ho : ops[j]? = some o) (hjD : j ∈ D) (hd : o.dst = some d) (hle : μ.le μ') (hv : VRel μ' (look t d) v')
    (hG : ∀ i b, i ≠ j → (i, b) ∈ G → b < H.next → μ b = none → (i, b) ∈ G' ∧ μ' b = none) (hsub : (G'.map Prod.snd).Sublist (G.map Prod.snd)) : DRel X μ' H ops t n (tm.setIfInBounds d v') D plan idx G' Fact := by
  obtain ⟨⟨o2, ho2, hdx⟩, hji, htopo⟩ := h.topo
  rw [ho] at ho2; cases ho2
  refine ⟨h.stat, h.wf, h.okp, htopo, ?_, h.dcl, by simp [h.sz], ?_, ?_, h.dlt, h.gnd.sublist hsub, fun b hb => h.glt b (hsub.subset hb)⟩
  · intro i oi hi hni
    by_cases e : i = j
    · subst e
      rw [ho] at hi; cases hi
      exact ⟨hjD, fun q hq hm => hdx q hq (by simp [hm])⟩
    · obtain ⟨h1, h2⟩ := h.clo i oi hi (by simp [e, hni])
      exact ⟨h1, fun q hq hm => h2 q hq (by simp [hm])⟩
  · intro u hu
    by_cases e : u = d
    · subst e
      rw [getD_set_same _ _ (by rw [h.sz]; exact h.dlt j o u ho hjD hd)]; exact hv
    · rw [getD_set_ne' _ _ e]
      refine (h.tmp u ?_).mono hle
      intro i oi hi hiD him
      rcases List.mem_cons.1 him with rfl | him
      · rw [ho] at hi; cases hi
        rw [hd]; simp; exact fun q => e q.symm
      · exact hu i oi hi hiD him
  · intro i oi hi hiD him
    have hij : i ≠ j := by rintro rfl; exact hji him
    obtain ⟨q, h1, h0, h2⟩ := h.pen i oi hi hiD (by simp [him])
    refine ⟨q, h1, h0, ?_⟩
    rcases h2 with h2 | h2 | ⟨a, b, c, hc, obj, mk, e1, e2, e3, e4, e5⟩
    · exact .inl h2
    · exact .inr (.inl h2)
    · obtain ⟨g1, g2⟩ := hG i c hij hc e3 e4
      exact .inr (.inr ⟨a, b, c, g1, obj, mk, e1, e2, e3, g2, e5⟩)

theorem nodup_snd {G : List (Nat × Nat)} (h : (G.map Prod.snd).Nodup) {i j b : Nat} (hi : (i, b) ∈ G) (hj : (j, b) ∈ G) : i = j := by
  induction G with
  | nil => cases hi
  | cons a G ih =>
    simp only [List.map_cons, List.nodup_cons] at h
    rcases List.mem_cons.1 hi with e1 | hi' <;> rcases List.mem_cons.1 hj with e2 | hj'
    · rw [← e1] at e2; cases e2; rfl
    · exact absurd (List.mem_map.2 ⟨_, hj', rfl⟩) (by rw [← e1] at h; exact h.1)
    · exact absurd (List.mem_map.2 ⟨_, hi', rfl⟩) (by rw [← e2] at h; exact h.1)
    · exact ih h.2 hi' hj'

theorem DRel.reads {ops : Array Oper} {t : Tr Value} {n j : Nat} {tm : Array Value} {D : List Nat} {plan : List PE} {idx : List Nat} {G : List (Nat × Nat)} {Fact : Nat → Oper → Nat → Prop} {o : Oper} (h : DRel X μ H ops t n tm D plan (j :: idx) G Fact) (ho : ops[j]? = some o) :
    ∀ u ∈ readsOf ops o, VRel μ (look t u) (tm.getD u Go.undef) := by
  intro u hu
  obtain ⟨⟨o2, ho2, hdx⟩, _, _⟩ := h.topo
  rw [ho] at ho2; cases ho2
  refine h.tmp u fun i oi hi hiD him e => ?_
  rcases stat_reads h.stat ho hi hu e with q | q
  · exact hdx i q him
  · obtain ⟨_, _, hc, _⟩ := h.pen i oi hi hiD him
    exact hc q.1

theorem cls_defer {P : Program} {o : Oper} (h : clsOf P o ≠ 2) : ∀ c, o.op ≠ .defer c := by
  intro c e
  unfold clsOf at h
  rw [e] at h
  exact h rfl

open Classical in
noncomputable def only (o : Oper) (ρ : Operand → Value) : Operand → Value := fun x => if x ∈ o.op.operands then ρ x else junk
theorem only_eq (o : Oper) (ρ : Operand → Value) : ∀ x ∈ o.op.operands, only o ρ x = ρ x := fun x hx => by simp [only, hx]
theorem only_rel {o : Oper} {ρ ρ' : Operand → Value} (h : ∀ x ∈ o.op.operands, VRel μ (ρ x) (ρ' x)) : ∀ x, VRel μ (only o ρ x) (ρ' x) := by
  intro x
  unfold only
  split
  · rename_i hx; exact h x hx
  · exact .junk _

theorem flush1 {ops : Array Oper} {t : Tr Value} {n j : Nat} {tm : Array Value} {D : List Nat} {plan : List PE} {idx : List Nat} {G : List (Nat × Nat)} {fn : FuncId} {k' : List Item} {ds' : List Deferred} {kd : CallKind} {rd' : Option Nat} {cs : List Frame}
    (hH : HRel base W0 μ H W) (hlaid : LaidRel X μ) (hD : DRel X μ H ops t n tm D plan (j :: idx) G (FactNow X H t plan)) (hjD : j ∈ D) (hnl : j ∉ lead plan) :
    ∃ μ' W' tm' G', step X.P (lone ⟨fn, tm, .inRegion ops (j :: idx) :: k', ds', .run, kd, rd'⟩ cs W) = .next (lone ⟨fn, tm', .inRegion ops idx :: k', ds', .run, kd, rd'⟩ cs W') ∧ HRel base W0 μ' H W' ∧
      DRel X μ' H ops t n tm' D plan idx G' (FactNow X H t plan) ∧ (∀ gs, (G.map Prod.snd ++ gs).Nodup → Keeps gs μ H μ' H) ∧ (G'.map Prod.snd).Sublist (G.map Prod.snd) := by
  obtain ⟨⟨o, ho, hdx⟩, hji, htopo⟩ := hD.topo
  have hreads := hD.reads ho
  obtain ⟨d, hd, _, hp⟩ := hD.pen j o ho hjD (by simp)
  have hwant : ∀ b, wantedI ops o t = some b → Region.wanted o (yielded ops tm) = b := fun b hb => wanted_rel' (fun q w u hg hu => hreads u (reads_guard hg hu)) hb
  have hev : ∀ x ∈ o.op.operands, VRel μ (ieval X t x) (Frame.eval ⟨fn, tm, .inRegion ops (j :: idx) :: k', ds', .run, kd, rd'⟩ x) := fun x hx => eval_rel' hlaid x fun u hu => hreads u (reads_tmp (by rw [← hu]; exact hx))
  have hfin : ∀ v, Frame.finish ⟨fn, tm, .inRegion ops (j :: idx) :: k', ds', .run, kd, rd'⟩ v = ⟨fn, tm.setIfInBounds d v, .inRegion ops idx :: k', ds', .run, kd, rd'⟩ := fun v => by simp only [Frame.finish, ho, Option.bind_some, hd]
  have hnd : clsOf X.P o ≠ 2 → ∀ c, o.op = .defer c → rd' = none := fun hc c e => absurd e (cls_defer hc c)
  rcases hp with ⟨hw, hl⟩ | ⟨hw, hc, hf⟩ | ⟨hw, hc, b, hb, obj, mk, e1, e2, e3, e4, e5⟩
  · refine ⟨μ, W, _, G, ?_, hH, hD.flush ho hjD hd (Inj.le_refl _) (v' := Go.undef) (by rw [hl]; exact VRel.undef μ) (fun i b _ hb _ hm => ⟨hb, hm⟩) (List.Sublist.refl _), fun gs _ => Keeps.refl _ _ _, List.Sublist.refl _⟩
    rw [c_opSkip ho (hwant false hw), hfin]
  · rcases hf with hf | ⟨H1, hf⟩
    · exact absurd hf hnl
    · obtain ⟨rfl, _⟩ := iop_zero hc hf
      rw [← iop_congr o (only_eq o (ieval X t))] at hf
      obtain ⟨μ', nx, v', W', r1, r2, r3, r4, r5⟩ := iop_sim hH (only_rel hev) hf
      refine ⟨μ', W', _, G, ?_, r3, hD.flush ho hjD hd r5.le r4 (fun i b _ hb hlt hm => ⟨hb, (r5.ghost b hlt hm).1⟩) (List.Sublist.refl _), fun gs _ => r5.keeps gs, List.Sublist.refl _⟩
      rw [c_op ho (hwant true hw) (hnd (by omega)) r1 r2, hfin]
  · have hio : iop X.P (only o (ieval X t)) o H = some (mk H.next, H.alloc obj) := by rw [iop_congr o (only_eq o (ieval X t))]; exact e2 H
    obtain ⟨obj2, mk2, q1, q2, q3, q4, q5⟩ := iop_one hc hio
    have hobj : obj2 = obj := by
      have := congrArg (fun h : IHeap => h.get H.next) q2
      simp only [IHeap.get_alloc, if_true] at this
      cases this; rfl
    have hmk : ∀ b, mk2 b = mk b := by
      intro b
      have h1 := q3 ⟨.leaf, b⟩
      rw [iop_congr o (only_eq o (ieval X t)), e2] at h1
      simp only [Option.some.injEq, Prod.mk.injEq] at h1
      exact h1.1.symm
    subst hobj
    obtain ⟨o', T, v', r1, r2, r3, r4⟩ := q5 μ W _ (only_rel hev)
    have hle := Inj.le_ext T e4
    have hsub : ((G.filter fun p => decide (p.2 ≠ b)).map Prod.snd).Sublist (G.map Prod.snd) := (List.filter_sublist).map _
    refine ⟨μ.ext b T, W.alloc o', _, G.filter fun p => decide (p.2 ≠ b), ?_, hH.settle e5 e4 r2 r3 q4.2, hD.flush ho hjD hd hle (by rw [e1, ← hmk]; exact r4 b) (fun i b' hij hb' _ hm => ?_) hsub, fun gs hnd => ?_, hsub⟩
    · rw [c_op ho (hwant true hw) (hnd (by omega)) r1 (.inl rfl), hfin]
    · have hne : b' ≠ b := by rintro rfl; exact hij (nodup_snd hD.gnd hb' hb)
      exact ⟨List.mem_filter.2 ⟨hb', by simp [hne]⟩, by rw [Inj.ext_ne _ _ hne]; exact hm⟩
    · refine ⟨hle, Nat.le_refl _, fun b' hb' _ hm => ⟨?_, rfl⟩⟩
      have hne : b' ≠ b := by
        rintro rfl
        exact (List.nodup_append.1 hnd).2.2 b' (List.mem_map.2 ⟨_, hb, rfl⟩) b' hb' rfl
      rw [Inj.ext_ne _ _ hne]; exact hm

theorem flushAll {ops : Array Oper} {t : Tr Value} {n : Nat} {D : List Nat} {plan : List PE} {fn : FuncId} {k' : List Item} {ds' : List Deferred} {kd : CallKind} {rd' : Option Nat} {cs : List Frame} {gs : List Nat} (hnl : lead plan = []) :
    ∀ (idx : List Nat) (μ : Inj) (W : World) (tm : Array Value) (G : List (Nat × Nat)), HRel base W0 μ H W → LaidRel X μ → DRel X μ H ops t n tm D plan idx G (FactNow X H t plan) → (∀ j ∈ idx, j ∈ D) → (G.map Prod.snd ++ gs).Nodup →
      ∃ μ' W' tm' G', Steps X.P (lone ⟨fn, tm, .inRegion ops idx :: k', ds', .run, kd, rd'⟩ cs W) (lone ⟨fn, tm', .inRegion ops [] :: k', ds', .run, kd, rd'⟩ cs W') ∧ HRel base W0 μ' H W' ∧ DRel X μ' H ops t n tm' D plan [] G' (FactNow X H t plan) ∧ Keeps gs μ H μ' H := by
  intro idx
  induction idx with
  | nil => intro μ W tm G hH _ hD _ _; exact ⟨μ, W, tm, G, .refl _ _, hH, hD, Keeps.refl _ _ _⟩
  | cons j idx ih =>
    intro μ W tm G hH hl hD hall hnd
    obtain ⟨μ1, W1, tm1, G1, h1, h2, h3, h4, h5⟩ := flush1 (fn := fn) (k' := k') (ds' := ds') (kd := kd) (rd' := rd') (cs := cs) hH hl hD (hall j (by simp)) (by rw [hnl]; simp)
    have hk := h4 gs hnd
    obtain ⟨μ2, W2, tm2, G2, q1, q2, q3, q4⟩ := ih μ1 W1 tm1 G1 h2 (hl.mono hk.le) h3 (fun j hj => hall j (by simp [hj])) (hnd.sublist (h5.append (List.Sublist.refl _)))
    exact ⟨μ2, W2, tm2, G2, .head h1 q1, q2, q3, hk.trans q4⟩

theorem flushTo {ops : Array Oper} {t : Tr Value} {n x : Nat} {o : Oper} {D : List Nat} {rest : List PE} {fn : FuncId} {k' : List Item} {ds' : List Deferred} {kd : CallKind} {rd' : Option Nat} {cs : List Frame} {gs : List Nat} (hcls : clsOf X.P o = 2) :
    ∀ (idx : List Nat) (μ : Inj) (W : World) (tm : Array Value) (G : List (Nat × Nat)), HRel base W0 μ H W → LaidRel X μ → DRel X μ H ops t n tm D (.op x o :: rest) idx G (FactNow X H t (.op x o :: rest)) → x ∈ idx → (G.map Prod.snd ++ gs).Nodup →
      ∃ μ' W' tm' G' idx', Steps X.P (lone ⟨fn, tm, .inRegion ops idx :: k', ds', .run, kd, rd'⟩ cs W) (lone ⟨fn, tm', .inRegion ops (x :: idx') :: k', ds', .run, kd, rd'⟩ cs W') ∧ HRel base W0 μ' H W' ∧
        DRel X μ' H ops t n tm' D (.op x o :: rest) (x :: idx') G' (FactNow X H t (.op x o :: rest)) ∧ Keeps gs μ H μ' H ∧ (G'.map Prod.snd).Sublist (G.map Prod.snd) := by
  intro idx
  induction idx with
  | nil => intro μ W tm G _ _ _ hx; cases hx
  | cons j idx ih =>
    intro μ W tm G hH hl hD hx hnd
    by_cases e : j = x
    · subst e
      exact ⟨μ, W, tm, G, idx, .refl _ _, hH, hD, Keeps.refl _ _ _, List.Sublist.refl _⟩
    · have hjD : j ∈ D := by
        obtain ⟨⟨oj, hoj, hdx⟩, _, _⟩ := hD.topo
        obtain ⟨_, _, _, hc⟩ := okPlan_op hD.okp
        rcases (hc hcls).1 j oj hoj with h1 | h1 | h1
        · exact h1
        · exact absurd h1 e
        · exfalso
          refine anc_sub (ops := ops.toList) (fun i => i ∉ j :: idx) (fun i oi hi hni => ?_) _ _ _ (fun q hq => hdx q hq) (fun q hq => by cases hq) x h1 hx
          rw [Array.getElem?_toList] at hi
          exact (hD.clo i oi hi hni).2
      obtain ⟨μ1, W1, tm1, G1, h1, h2, h3, h4, h5⟩ := flush1 (fn := fn) (k' := k') (ds' := ds') (kd := kd) (rd' := rd') (cs := cs) hH hl hD hjD (by simp [lead])
      have hk := h4 gs hnd
      have hx' : x ∈ idx := by
        rcases List.mem_cons.1 hx with h | h
        · exact absurd h.symm e
        · exact h
      obtain ⟨μ2, W2, tm2, G2, idx2, q1, q2, q3, q4, q5⟩ := ih μ1 W1 tm1 G1 h2 (hl.mono hk.le) h3 hx' (hnd.sublist (h5.append (List.Sublist.refl _)))
      exact ⟨μ2, W2, tm2, G2, idx2, .head h1 q1, q2, q3, hk.trans q4, q5.trans h5⟩

theorem DRel.suspend {ops : Array Oper} {t : Tr Value} {n x : Nat} {tm : Array Value} {o : Oper} {D : List Nat} {rest : List PE} {idx : List Nat} {G : List (Nat × Nat)} (hcls : clsOf X.P o = 2) (hx : ops[x]? = some o)
    (h : DRel X μ H ops t n tm D (.op x o :: rest) (x :: idx) G (FactNow X H t (.op x o :: rest))) : DRel X μ H ops t n tm D (.op x o :: rest) (x :: idx) G (FactSusp rest) := by
  refine ⟨h.stat, h.wf, h.okp, h.topo, h.clo, h.dcl, h.sz, h.tmp, fun i oi hi hiD him => ?_, h.dlt, h.gnd, h.glt⟩
  refine (h.pen i oi hi hiD him).congr (fun _ _ => rfl) (fun _ _ => rfl) fun d _ _ hc0 _ => ?_
  obtain ⟨_, _, _, hc⟩ := okPlan_op h.okp
  obtain ⟨⟨o2, ho2, hdx⟩, _, _⟩ := h.topo
  rw [hx] at ho2; cases ho2
  rcases (hc hcls).2 i oi hiD hi hc0 with h1 | h1
  · exfalso
    refine anc_sub (ops := ops.toList) (fun q => q ∉ x :: idx) (fun q oq hq hnq => ?_) _ _ _ (fun q hq => hdx q hq) (fun q hq => by cases hq) i h1 him
    rw [Array.getElem?_toList] at hq
    exact (h.clo q oq hq hnq).2
  · exact h1

end
end Go.Ideal

namespace Go.Ideal
section
variable {X : Ctx} {base : Env} {W0 : World} {μ : Inj} {H : IHeap} {W : World}

theorem fill_get : ∀ (args : List Value) (i0 : Nat) (t : Tr Value) (j : Nat), (fillTmps i0 args t).get j = if i0 ≤ j ∧ j < i0 + args.length then args[j - i0]? else t.get j := by
  intro args
  induction args with
  | nil => intro i0 t j; simp [fillTmps]; omega
  | cons v r ih =>
    intro i0 t j
    simp only [fillTmps]
    rw [ih, Tr.get_put]
    by_cases h1 : j = i0
    · subst h1
      rw [if_neg (by omega), if_pos rfl, if_pos (by simp)]
      simp
    · by_cases h2 : i0 + 1 ≤ j ∧ j < i0 + 1 + r.length
      · rw [if_pos h2, if_pos (by simp; omega)]
        obtain ⟨q, rfl⟩ : ∃ q, j = i0 + 1 + q := ⟨j - (i0 + 1), by omega⟩
        have e1 : i0 + 1 + q - (i0 + 1) = q := by omega
        have e2 : i0 + 1 + q - i0 = q + 1 := by omega
        rw [e1, e2, List.getElem?_cons_succ]
      · rw [if_neg h2, if_neg h1, if_neg (by simp; omega)]
theorem enter_rel {args : List Value} {args' : Array Value} {n : Nat} (ha : LRel μ args args'.toList) (hn : args.length ≤ n) : TRel μ (fillTmps 0 args .leaf) n (args' ++ Array.replicate (n - args'.size) Go.undef) := by
  have hl : args.length = args'.size := by have := ha.length; simpa using this
  refine ⟨by simp; omega, fun i => ?_⟩
  unfold look
  rw [fill_get]
  by_cases hi : i < args.length
  · rw [if_pos ⟨Nat.zero_le _, by omega⟩]
    obtain ⟨v', h1, h2⟩ := ha.get? (List.getElem?_eq_getElem hi)
    rw [Array.getElem?_toList] at h1
    have : (args' ++ Array.replicate (n - args'.size) Go.undef).getD i Go.undef = v' := by
      rw [Array.getD_eq_getD_getElem?, Array.getElem?_append_left (by omega), h1]; rfl
    rw [this]
    simp only [Nat.sub_zero, List.getElem?_eq_getElem hi, Option.getD_some]
    exact h2
  · rw [if_neg (by omega), Tr.get_leaf]
    have : (args' ++ Array.replicate (n - args'.size) Go.undef).getD i Go.undef = Go.undef := by
      rw [Array.getD_eq_getD_getElem?, Array.getElem?_append_right (by omega), Array.getElem?_replicate]; split <;> rfl
    rw [this]
    exact VRel.junk _

theorem entry_eq {P : Program} {f : FuncId} {n : Nat} {c : Code} (h : entry P f = some (n, c)) : ∃ fn, P.funcs[f]? = some fn ∧ fn.body = some c ∧ fn.ntmps = n ∧ (fn.name == "runtime.NumGoroutine") = false := by
  unfold entry at h
  split at h
  · rename_i fn hf
    split at h
    · rename_i b hb
      cases hn : (fn.name == "runtime.NumGoroutine")
      · rw [hn] at h; cases h; exact ⟨fn, hf, hb, rfl, hn⟩
      · rw [hn] at h; cases h
    · cases h
  · cases h
theorem run_callFunc {P : Program} {f : FuncId} {n : Nat} {c : Code} (h : entry P f = some (n, c)) (args : Array Value) (w : World) : (callFunc f args).run P w = .ok (.enter f args) w := by
  obtain ⟨fn, h1, h2, h3, h4⟩ := entry_eq h
  have h5 : ¬ fn.name = "runtime.NumGoroutine" := by simpa using h4
  simp [callFunc, h1, h2, h5]
theorem enter_eq {P : Program} {f : FuncId} {n : Nat} {c : Code} (h : entry P f = some (n, c)) (args : Array Value) (kind : CallKind) :
    Frame.enter P f args kind = ⟨f, args ++ Array.replicate (n - args.size) Go.undef, [.code c], [], .run, kind, none⟩ := by
  obtain ⟨fn, h1, h2, h3, h4⟩ := entry_eq h
  simp [Frame.enter, h1, h2, h3]

def IntrOk (X : Ctx) (base : Env) (W0 : World) : Prop := ∀ f F, X.intr f = some F → (∃ n c, entry X.P f = some (n, c)) ∧ ∀ μ H W (args : List Value) (args' : Array Value) v H', HRel base W0 μ H W → LaidRel X μ → LRel μ args args'.toList → F args H = some (v, H') →
  Calls X.P f args' W fun e W' => ∃ v' μ', e = .returned v' ∧ HRel base W0 μ' H' W' ∧ VRel μ' v v' ∧ Evolve μ H μ' H'

theorem flats_eq : ∀ (l l' : List Value), l.all flat = true → LRel μ l l' → l' = l
  | [], _, _, h => by cases h; rfl
  | a :: l, _, hf, h => by
    simp only [List.all_cons, Bool.and_eq_true] at hf
    cases h with
    | cons h1 h2 => rw [flat_eq hf.1 h1, flats_eq l _ hf.2 h2]

theorem enterI_sim (hok : IntrOk X base W0) {g gs : List Nat} {fr : IFrame} {cs : List IFrame} {fr' : Frame} {cs' cs0 : List Frame} {f : FuncId} {args : List Value} {args' : Array Value} {c' : Cfg} {m : Machine}
    (hH : HRel base W0 μ H W) (hlaid : LaidRel X μ) (hfr : FRel X μ H g fr fr') (hcs : FsRel X μ H gs cs cs') (hnd : (g ++ gs).Nodup) (ha : LRel μ args args'.toList)
    (hm : ∀ n c, entry X.P f = some (n, c) → Steps X.P m (lone (Frame.enter X.P f args' .normal) (fr' :: (cs' ++ cs0)) W))
    (hmv : ∀ v, (callFunc f args').run X.P W = .ok (.value v) W → Steps X.P m (lone (fr'.finish v) (cs' ++ cs0) W)) (hi : enterI X f args .normal fr cs H = some c') :
    StepSim X base W0 cs0 c' m := by
  unfold enterI at hi
  cases hat : intrAt X f args .normal H with
  | none =>
    simp only [hat] at hi
    split at hi
    · rename_i n c he
      cases hle : Nat.ble args.length n
      · simp [hle] at hi
      · simp only [hle, cond_true, Option.some.injEq] at hi
        subst hi
        refine ⟨μ, _, fr' :: cs', W, hm n c he, hH, hlaid, [], g ++ gs, ?_, .cons hfr hcs, hnd⟩
        rw [enter_eq he]
        exact .plain f _ n _ _ _ [] [] false .normal none none (enter_rel ha (Nat.le_of_ble_eq_true hle)) (.cons (.code c) .nil) .nil .none
    · cases hf : args.all flat
      · simp only [hf, cond_false] at hi; cases hi
      · simp only [hf, cond_true] at hi
        split at hi
        · rename_i v hp
          cases hfv : flat v
          · simp only [hfv, cond_false] at hi; cases hi
          · simp only [hfv, cond_true] at hi
            split at hi
            · rename_i fr1 hfin
              cases hi
              have he : args' = ⟨args⟩ := by rw [← Array.toList_inj]; exact flats_eq args _ hf ha
              have hrun : (callFunc f args').run X.P W = .ok (.value v) W := by rw [he]; exact pureRun_run hp W
              exact ⟨μ, _, cs', W, hmv v hrun, hH, hlaid, g, gs, finish_rel hfr (flat_refl hfv) hfin, hcs, hnd⟩
            · cases hi
        · cases hi
  | some p =>
    obtain ⟨v, H'⟩ := p
    simp only [hat] at hi
    obtain ⟨F, hin, hF⟩ : ∃ F, X.intr f = some F ∧ F args H = some (v, H') := by
      unfold intrAt at hat
      split at hat
      · rename_i F e; exact ⟨F, e, hat⟩
      · cases hat
    · split at hi
      · rename_i fr1 hfin
        cases hi
        obtain ⟨⟨n, c, he⟩, hc⟩ := hok f F hin
        obtain ⟨e, w', fx, ⟨v', μ', rfl, h1, h2, h3⟩, hcomes, hfn, hleave⟩ := hc μ H W args args' v H' hH hlaid ha hF (fr' :: (cs' ++ cs0))
        exact ⟨μ', fr'.finish v', cs', w', (hm n c he).trans (Steps.trans hcomes (.one (step_leave_returned hleave))), h1, hlaid.mono h3.le, g, gs, finish_rel (hfr.mono (h3.keeps g)) h2 hfin, hcs.mono (h3.keeps gs), hnd⟩
      · cases hi

theorem setParams_rel : ∀ (ps : List Tmp) (vs vs' : List Value) (t : Tr Value) (n : Nat) (a : Array Value), TRel μ t n a → LRel μ vs vs' → ps.all (fun p => Nat.blt p n) = true →
    TRel μ (setParams ps vs t) n ((ps.zip vs').foldl (fun (tm : Array Value) (x : Tmp × Value) => tm.setIfInBounds x.1 x.2) a) := by
  intro ps
  induction ps with
  | nil => intro vs vs' t n a ht _ _; simpa [setParams] using ht
  | cons p ps ih =>
    intro vs vs' t n a ht hv hp
    simp only [List.all_cons, Bool.and_eq_true] at hp
    cases hv with
    | nil => simpa [setParams] using ht
    | cons h1 h2 =>
      simp only [setParams, List.zip_cons_cons, List.foldl_cons]
      exact ih _ _ _ n _ (ht.put (Nat.le_of_ble_eq_true hp.1) h1) h2 hp.2

theorem yieldI_sim {g gs : List Nat} {fr : IFrame} {cs : List IFrame} {fr' : Frame} {cs' cs0 : List Frame} {l : Nat} {T : Tgt} {args : List Value} {args' : Array Value} {c' : Cfg} {m : Machine}
    (hH : HRel base W0 μ H W) (hlaid : LaidRel X μ) (hfr : FRel X μ H g fr fr') (hcs : FsRel X μ H gs cs cs') (hnd : (g ++ gs).Nodup) (ha : LRel μ args args'.toList) (hl : μ l = some T)
    (hm : ∀ f t a b, (Instr.yield T.c args').run X.P W = .ok (.round T.c f t a b) W → Steps X.P m (lone (Frame.round T.c f t a b .normal) (fr' :: (cs' ++ cs0)) W)) (hi : yieldI l args fr cs H = some c') :
    StepSim X base W0 cs0 c' m := by
  unfold yieldI at hi
  split at hi
  · rename_i r hget
    cases hc : (Nat.beq args.length r.params.size && r.params.toList.all (fun p => Nat.blt p r.n))
    · simp only [hc, cond_false] at hi; cases hi
    · simp only [hc, cond_true, Option.some.injEq] at hi
      subst hi
      simp only [Bool.and_eq_true] at hc
      have hlen := Nat.eq_of_beq_eq_true hc.1
      obtain ⟨o', ho', hor⟩ := hH.obj l _ hget T hl
      cases hor with
      | loop _ a R ht hd =>
        have hsz : args'.size = r.params.size := by
          have : args.length = args'.size := by simpa using ha.length
          omega
        have hrun : (Instr.yield T.c args').run X.P W = .ok (.round T.c r.fn ((r.params.zip args').foldl (fun tmps (t, a) => tmps.setIfInBounds t a) a) r.assign r.body) W := by
          simp [Instr.yield, run_getLoop (P := X.P) ho', hsz]
        refine ⟨μ, _, fr' :: cs', W, hm _ _ _ _ hrun, hH, hlaid, [], g ++ gs, ?_, .cons hfr hcs, hnd⟩
        have := setParams_rel r.params.toList args args'.toList r.tmps r.n a ht ha hc.2
        refine .plain r.fn _ r.n _ _ _ [] [] false .normal (some l) (some T.c) ?_ (.cons (.code _) (.cons .beginRound (.cons (.code _) .nil))) .nil (.some l T hl)
        rw [← Array.foldl_toList, Array.toList_zip]
        exact this
  · cases hi

end
end Go.Ideal

namespace Go.Ideal
section
variable {X : Ctx} {base : Env} {W0 : World} {μ : Inj} {H : IHeap} {W : World}

theorem exitTo_rel {id : Nat} : ∀ {k : List IItem} {k' : List Item}, ItsRel μ k k' → (∀ q, iexitTo id k = some q → ∃ q', exitTo id k' = some q' ∧ ItsRel μ q q') ∧ (iexitTo id k = none → exitTo id k' = none) := by
  intro k k' h
  induction h with
  | nil => exact ⟨fun q e => by simp [iexitTo] at e, fun _ => rfl⟩
  | cons h t ih =>
    cases h with
    | inBlock id' =>
      simp only [iexitTo, exitTo]
      cases hb : Nat.beq id' id
      · have hne : (id' == id) = false := by
          cases hq : (id' == id)
          · rfl
          · rw [eq_of_beq hq, Nat.beq_refl] at hb; cases hb
        simp only [hne, cond_false]
        exact ih
      · have := Nat.eq_of_beq_eq_true hb
        subst this
        simp only [cond_true, beq_self_eq_true, if_true]
        exact ⟨fun q e => by cases e; exact ⟨_, rfl, t⟩, fun e => by cases e⟩
    | code c => exact ih
    | inLoop c => exact ih
    | inScope c => exact ih
    | reg ops l idx h => exact ih
    | inRangeFunc l T h => exact ih
    | endRangeFunc l T h => exact ih
    | beginRound => exact ih

theorem args_rel {t : Tr Value} {f : Frame} (args : Array Operand) (h : ∀ x ∈ args, VRel μ (ieval X t x) (f.eval x)) : LRel μ (args.toList.map (ieval X t)) (args.map f.eval).toList := by
  rw [Array.toList_map]; exact LRel.map _ _ _ fun x hx => h x (by simpa using hx)

theorem oper_sim (hok : IntrOk X base W0) {g gs : List Nat} {fn : FuncId} {t : Tr Value} {n : Nat} {tm : Array Value} {ops : Array Oper} {o : Oper} {i : Nat} {idx : List Nat} {todo : List IItem} {k' : List Item} {ds ds' : List Deferred} {kd : CallKind} {rd rd' : Option Nat}
    {cs : List IFrame} {cs' cs0 : List Frame} {c' : Cfg} (hH : HRel base W0 μ H W) (hlaid : LaidRel X μ) (ho : ops[i]? = some o) (hds : DefsRel μ ds ds') (hrd : RdRel μ rd rd') (hcs : FsRel X μ H gs cs cs') (hnd : (g ++ gs).Nodup)
    (hfr : ∀ ds1 ds1', DefsRel μ ds1 ds1' → FRel X μ H g ⟨fn, t, n, todo, ds1, false, kd, rd⟩ ⟨fn, tm, .inRegion ops (i :: idx) :: k', ds1', .run, kd, rd'⟩)
    (hev : ∀ x ∈ o.op.operands, VRel μ (ieval X t x) (Frame.eval ⟨fn, tm, .inRegion ops (i :: idx) :: k', ds', .run, kd, rd'⟩ x))
    (hw : Region.wanted o (yielded ops tm) = true) (hi : operI X o ⟨fn, t, n, todo, ds, false, kd, rd⟩ cs H = some c') :
    StepSim X base W0 cs0 c' (lone ⟨fn, tm, .inRegion ops (i :: idx) :: k', ds', .run, kd, rd'⟩ (cs' ++ cs0) W) := by
  -- an operation that needs no frame
  have hplain : (∀ c, o.op = .defer c → rd' = none) → (match iop X.P (ieval X t) o H with
      | some (v, H') => match finishI ⟨fn, t, n, todo, ds, false, kd, rd⟩ v with
        | some fr' => some (⟨fr', cs, H'⟩ : Cfg)
        | none => none
      | none => none) = some c' → StepSim X base W0 cs0 c' (lone ⟨fn, tm, .inRegion ops (i :: idx) :: k', ds', .run, kd, rd'⟩ (cs' ++ cs0) W) := by
    intro hnd1 hm
    split at hm
    · rename_i v H' hio
      split at hm
      · rename_i fr1 hfin
        cases hm
        rw [← iop_congr o (only_eq o (ieval X t))] at hio
        obtain ⟨μ', nx, v', W', r1, r2, r3, r4, r5⟩ := iop_sim hH (only_rel hev) hio
        exact ⟨μ', _, cs', W', .one (c_op ho hw hnd1 r1 r2), r3, hlaid.mono r5.le, g, gs, finish_rel ((hfr ds ds' hds).mono (r5.keeps g)) r4 hfin, hcs.mono (r5.keeps gs), hnd⟩
      · cases hm
    · cases hm
  unfold operI at hi
  split at hi
  · rename_i c hc
    have hnd1 : ∀ c, o.op = .defer c → rd' = none := fun c e => by rw [hc] at e; cases e
    split at hi
    · rename_i b hcal
      cases hb : isRec b
      · simp only [hb, cond_false] at hi; exact hplain hnd1 hi
      · simp only [hb, cond_true] at hi
        have hbe : b = .recover := by cases b <;> first | rfl | cases hb
        have hex : (execOp (Frame.eval ⟨fn, tm, .inRegion ops (i :: idx) :: k', ds', .run, kd, rd'⟩) o).run X.P W = .ok .recover W := by
          simp only [execOp, hc, resolve, hcal, hbe]
          rfl
        unfold recI at hi
        simp only at hi
        cases hrd with
        | some l T hm => cases hi
        | none =>
          simp only at hi
          have go : ∀ fr1, finishI ⟨fn, t, n, todo, ds, false, kd, none⟩ .nilIface = some fr1 → tryRecover ⟨fn, tm, .inRegion ops (i :: idx) :: k', ds', .run, kd, none⟩ (cs' ++ cs0) = none → c' = ⟨fr1, cs, H⟩ →
              StepSim X base W0 cs0 c' (lone ⟨fn, tm, .inRegion ops (i :: idx) :: k', ds', .run, kd, none⟩ (cs' ++ cs0) W) := by
            rintro fr1 hfin htr rfl
            exact ⟨μ, _, cs', W, .one (c_recover ho hw hnd1 hex rfl htr), hH, hlaid, g, gs, finish_rel (hfr ds ds' hds) .nilIface hfin, hcs, hnd⟩
          cases kd with
          | normal =>
            simp only at hi
            split at hi
            · rename_i fr1 hfin
              exact go fr1 hfin (by simp [tryRecover]) (by cases hi; rfl)
            · cases hi
          | deferred =>
            simp only at hi
            cases hcs with
            | nil => cases hi
            | cons hf hft =>
              simp only at hi
              split at hi
              · rename_i fr1 hfin
                refine go fr1 hfin ?_ (by cases hi; rfl)
                cases hf with
                | plain _ _ _ _ _ _ _ _ r _ _ _ _ _ _ _ => cases r <;> simp [tryRecover, modeOf]
                | susp => simp [tryRecover]
              · cases hi
          | _ => cases hi
    · rename_i f hcal
      have hopn : o.op.operands = #[f] ++ c.args := by rw [hc]; simp only [Op.operands, Call.operands, hcal]
      have hargs := args_rel (f := ⟨fn, tm, .inRegion ops (i :: idx) :: k', ds', .run, kd, rd'⟩) c.args fun x hx => hev x (by rw [hopn]; simp [hx])
      have hf := hev f (by rw [hopn]; simp)
      unfold callI at hi
      split at hi
      · rename_i g1 first captured hfe
        simp only at hfe
        rw [hfe] at hf
        obtain ⟨fn', xs', ys', hfe', hfn, hx1, hy1⟩ := VRel.func_iff.1 hf
        cases hfn
        have hex : ∀ w, (execOp (Frame.eval ⟨fn, tm, .inRegion ops (i :: idx) :: k', ds', .run, kd, rd'⟩) o).run X.P w = (callFunc g1 (xs' ++ c.args.map (Frame.eval ⟨fn, tm, .inRegion ops (i :: idx) :: k', ds', .run, kd, rd'⟩) ++ ys')).run X.P w := by
          intro w
          simp only [execOp, hc, resolve, hcal, hfe', Deferred.ofValue, Sem.run_bind, Sem.run_pure, Result.andThen_ok, invoke]
        refine enterI_sim hok (args' := xs' ++ c.args.map (Frame.eval ⟨fn, tm, .inRegion ops (i :: idx) :: k', ds', .run, kd, rd'⟩) ++ ys') hH hlaid (hfr ds ds' hds) hcs hnd ?_ (fun nn cc he => .one (c_call ho hw hnd1 ?_)) (fun v hv => .one (c_op ho hw hnd1 ?_ (.inl rfl))) hi
        · simp only [Array.toList_append]; exact (hx1.append hargs).append hy1
        · rw [hex]; exact run_callFunc he _ W
        · rw [hex]; exact hv
      · rename_i l first captured hfe
        simp only at hfe
        rw [hfe] at hf
        obtain ⟨fn', xs', ys', hfe', hfn, hx1, hy1⟩ := VRel.func_iff.1 hf
        cases hfn with
        | yield _ T hT =>
          refine yieldI_sim (args' := xs' ++ c.args.map (Frame.eval ⟨fn, tm, .inRegion ops (i :: idx) :: k', ds', .run, kd, rd'⟩)) hH hlaid (hfr ds ds' hds) hcs hnd ?_ hT (fun f2 t2 a2 b2 hy => .one (c_round ho hw hnd1 ?_)) hi
          · simp only [Array.toList_append]; exact hx1.append hargs
          · simp only [execOp, hc, resolve, hcal, hfe', Deferred.ofValue, Sem.run_bind, Sem.run_pure, Result.andThen_ok, invoke]
            exact hy
      · cases hi
    · cases hi
  · rename_i c hc
    split at hi
    · rename_i f hrn hcal
      simp only at hrn
      subst hrn
      cases hrd
      have hopn : o.op.operands = #[f] ++ c.args := by rw [hc]; simp only [Op.operands, Call.operands, hcal]
      split at hi
      · rename_i fn1 first captured hfe
        split at hi
        · rename_i fr1 hfin
          cases hi
          have hargs := args_rel (f := ⟨fn, tm, .inRegion ops (i :: idx) :: k', ds', .run, kd, none⟩) c.args fun x hx => hev x (by rw [hopn]; simp [hx])
          have hf := hev f (by rw [hopn]; simp)
          simp only at hfe
          rw [hfe] at hf
          obtain ⟨fn', xs', ys', hfe', hfn, hx1, hy1⟩ := VRel.func_iff.1 hf
          refine ⟨μ, _, cs', W, .one (c_defer (d := { target := .fn fn' ys', args := xs' ++ c.args.map (Frame.eval ⟨fn, tm, .inRegion ops (i :: idx) :: k', ds', .run, kd, none⟩) }) ho hw ?_), hH, hlaid, g, gs, ?_, hcs, hnd⟩
          · simp only [execOp, hc, resolve, hcal, hfe', Deferred.ofValue, Sem.run_bind, Sem.run_pure, Result.andThen_ok]
          · refine finish_rel (hfr _ _ (.cons ⟨.fn fn1 fn' captured ys' hfn hy1, ?_⟩ hds)) (VRel.undef μ) hfin
            simp only [Array.toList_append]
            exact hx1.append hargs
        · cases hi
      · cases hi
    · cases hi
  · rename_i hnc hnd1
    exact hplain (fun c e => absurd e (hnd1 c)) hi

theorem returnI_sim {gs : List Nat} {c' : Cfg} {cs : List IFrame} {cs' cs0 : List Frame} {kd : CallKind} {v v' : Value} {m : Machine} (hH : HRel base W0 μ H W) (hlaid : LaidRel X μ) (hcs : FsRel X μ H gs cs cs') (hnd : gs.Nodup) (hv : VRel μ v v')
    (hn : ∀ c rest, cs' = c :: rest → kd = .normal → Steps X.P m (lone (c.finish v') (rest ++ cs0) W)) (hdf : ∀ c rest, cs' = c :: rest → kd = .deferred → c.mode = .returning → Steps X.P m (lone c (rest ++ cs0) W)) (hi : returnI kd v cs H = some c') :
    StepSim X base W0 cs0 c' m := by
  unfold returnI at hi
  split at hi
  · cases hi
  · rename_i c rest
    cases hcs with
    | @cons g gs c c1' rest rest' h1 h2 =>
      split at hi
      · split at hi
        · rename_i c1 hfin
          cases hi
          exact ⟨μ, _, _, W, hn _ _ rfl rfl, hH, hlaid, g, gs, finish_rel h1 hv hfin, h2, hnd⟩
        · cases hi
      · cases h1 with
        | plain fn t n tm todo todo' ds ds' r kd2 rd rd' ht hi2 hd hr =>
          cases r
          · simp at hi
          · simp only [cond_true, Option.some.injEq] at hi
            subst hi
            exact ⟨μ, _, _, W, hdf _ _ rfl rfl rfl, hH, hlaid, [], gs, .plain fn t n tm todo todo' ds ds' true kd2 rd rd' ht hi2 hd hr, h2, hnd⟩
        | susp fn t n tm ops x o rest idx D G k k' ds ds' kd rd rd' ho hD hkk hd hr => simp at hi
      · cases hi

def resF (tm : Array Value) : ResultVar → Sem Value
  | .tmp t => pure (tm.getD t Go.undef)
  | .cell a t => do loadVar t (← asAddr (tm.getD a Go.undef))
theorem valsOf_sim (hH : HRel base W0 μ H W) {t : Tr Value} {n : Nat} {tm : Array Value} (ht : TRel μ t n tm) : ∀ (rs : List ResultVar) (vs : List Value), valsOf X t H rs = some vs →
    ∃ vs', (rs.mapM (resF tm)).run X.P W = .ok vs' W ∧ LRel μ vs vs' := by
  intro rs
  induction rs with
  | nil => intro vs h; simp [valsOf] at h; subst h; exact ⟨[], by simp, .nil⟩
  | cons r rs ih =>
    intro vs h
    simp only [valsOf] at h
    split at h
    · rename_i v l hv hl
      cases h
      obtain ⟨l', r1, r2⟩ := ih l hl
      have key : ∃ v', (resF tm r).run X.P W = .ok v' W ∧ VRel μ v v' := by
        cases r with
        | tmp i =>
          simp only [valOf, Option.some.injEq] at hv
          subst hv
          exact ⟨_, rfl, ht.2 i⟩
        | cell a ty =>
          simp only [valOf] at hv
          have ha := ht.2 a
          generalize look t a = p at ha hv
          have hres : resF tm (.cell a ty) = (do loadVar ty (← asAddr (tm.getD a Go.undef))) := rfl
          rw [hres]
          generalize tm.getD a Go.undef = q at ha
          obtain ⟨v', q1, q2⟩ := load_sim (P := X.P) hH ha hv
          refine ⟨v', ?_, q2⟩
          cases ha with
          | ptr b o T hm => simpa [Instr.loadAt, Instr.sureAddr, asAddr] using q1
          | _ => simp [iload, junk] at hv
      obtain ⟨v', k1, k2⟩ := key
      exact ⟨v' :: l', by simp only [List.mapM_cons, Sem.run_bind, k1, Result.andThen_ok, r1, Sem.run_pure], .cons k2 r2⟩
    · cases h

theorem results_sim (hH : HRel base W0 μ H W) {f : FuncId} {t : Tr Value} {n : Nat} {tm : Array Value} (ht : TRel μ t n tm) {v : Value} (h : resultsI X f t H = some v) :
    ∃ fn v', X.P.funcs[f]? = some fn ∧ (results fn tm).run X.P W = .ok v' W ∧ VRel μ v v' := by
  unfold resultsI at h
  split at h
  · rename_i fn hfn
    refine ⟨fn, ?_⟩
    have key : ∀ vs, valsOf X t H fn.results.toList = some vs → ∃ vs', (results fn tm).run X.P W = .ok (if hx : vs'.toArray.size = 1 then vs'.toArray[0] else .tuple vs'.toArray) W ∧ LRel μ vs vs' := by
      intro vs hvs
      obtain ⟨vs', r1, r2⟩ := valsOf_sim hH ht _ _ hvs
      refine ⟨vs', ?_, r2⟩
      unfold results
      have hm : (fn.results.mapM (resF tm)).run X.P W = .ok vs'.toArray W := by
        rw [Array.mapM_eq_mapM_toList]
        simp only [Sem.run_map, r1, Result.andThen_ok]
      have he : results fn tm = (do let vs ← fn.results.mapM (resF tm); pure (if h : vs.size = 1 then vs[0] else .tuple vs)) := by
        unfold results
        congr 1
      unfold results at he
      rw [he]
      simp only [Sem.run_bind, hm, Result.andThen_ok, Sem.run_pure]
    split at h
    · rename_i v0 hvs
      cases h
      obtain ⟨vs', r1, r2⟩ := key _ hvs
      cases r2 with
      | cons h1 h2 =>
        cases h2
        exact ⟨_, hfn, r1, by simpa using h1⟩
    · rename_i l hne hvs
      cases h
      obtain ⟨vs', r1, r2⟩ := key _ hvs
      have hlen := r2.length
      refine ⟨_, hfn, r1, ?_⟩
      have hne1 : ¬ vs'.toArray.size = 1 := by
        intro e
        rw [List.size_toArray, ← hlen] at e
        obtain ⟨a, ha⟩ := List.length_eq_one_iff.1 e
        exact hne a ha
      rw [dif_neg hne1]
      exact VRel.tuple_iff.2 ⟨_, rfl, by simpa using r2⟩
    · cases h
  · cases h

end
end Go.Ideal

namespace Go.Ideal
section
variable {X : Ctx} {base : Env} {W0 : World} {μ : Inj} {H : IHeap} {W : World}

theorem loop_put (hH : HRel base W0 μ H W) {l : Nat} {T : Tgt} {q : ILoop} (hget : H.get l = some (.loop q)) (hT : μ l = some T) :
    ∃ r : Loop, W.heap[T.c]? = some (.loop r) ∧ r.state = q.state ∧ r.pending = q.pending ∧ ∀ st pe, HRel base W0 μ (H.put l (.loop { q with state := st, pending := pe })) { W with heap := W.heap.setIfInBounds T.c (.loop { r with state := st, pending := pe }) } ∧
      Evolve μ H μ (H.put l (.loop { q with state := st, pending := pe })) := by
  obtain ⟨o', ho', hor⟩ := hH.obj l _ hget T hT
  cases hor with
  | loop _ a R ht hd =>
    refine ⟨_, ho', rfl, rfl, fun st pe => ?_⟩
    exact hH.setObj (o1 := .loop { q with state := st, pending := pe }) hget rfl hT (.loop T { q with state := st, pending := pe } a R ht hd)

theorem leaveI_sim {gs : List Nat} {fn : FuncId} {t : Tr Value} {n : Nat} {tm : Array Value} {todo : List IItem} {todo' : List Item} {ds ds' : List Deferred} {kd : CallKind} {rd rd' : Option Nat} {cs : List IFrame} {cs' cs0 : List Frame} {c' : Cfg} {j : Option Code}
    (hH : HRel base W0 μ H W) (hlaid : LaidRel X μ) (ht : TRel μ t n tm) (hi : ItsRel μ todo todo') (hd : DefsRel μ ds ds') (hrd : RdRel μ rd rd') (hcs : FsRel X μ H gs cs cs') (hnd : gs.Nodup)
    (hj : (todo' = [] ∧ j = none) ∨ (∃ k, todo' = .code .ret :: k ∧ j = some .ret) ∨ ∃ id k, todo' = .code (.exit id) :: k ∧ exitTo id k = none ∧ j = some (.exit id))
    (h : leaveI j ⟨fn, t, n, todo, ds, false, kd, rd⟩ cs H = some c') : StepSim X base W0 cs0 c' (lone ⟨fn, tm, todo', ds', .run, kd, rd'⟩ (cs' ++ cs0) W) := by
  unfold leaveI at h
  simp only at h
  cases hrd with
  | none =>
    simp only at h
    have fin : ∀ (hh : todo' = [] ∨ ∃ k, todo' = .code .ret :: k), c' = ⟨⟨fn, t, n, todo, ds, true, kd, none⟩, cs, H⟩ → StepSim X base W0 cs0 c' (lone ⟨fn, tm, todo', ds', .run, kd, none⟩ (cs' ++ cs0) W) := by
      rintro hh rfl
      exact ⟨μ, _, cs', W, .one (c_leave todo' hh), hH, hlaid, [], gs, .plain fn t n tm todo todo' ds ds' true kd none none ht hi hd .none, hcs, hnd⟩
    rcases hj with ⟨h1, rfl⟩ | ⟨k, h1, rfl⟩ | ⟨id, k, h1, h2, rfl⟩
    · simp only [Option.some.injEq] at h; exact fin (.inl h1) h.symm
    · simp only [Option.some.injEq] at h; exact fin (.inr ⟨k, h1⟩) h.symm
    · simp at h
  | some l T hT =>
    simp only at h
    split at h
    · rename_i q hget
      obtain ⟨r, hr, hst, hpe, hput⟩ := loop_put hH hget hT
      have main : ∀ st, (st = if j.isNone then LoopState.ready else .done) → returnI kd (.bool j.isNone) cs (H.put l (.loop { q with state := st, pending := j })) = some c' →
          StepSim X base W0 cs0 c' (lone ⟨fn, tm, todo', ds', .run, kd, some T.c⟩ (cs' ++ cs0) W) := by
        intro st hst' h
        obtain ⟨p1, p2⟩ := hput st j
        refine returnI_sim p1 hlaid (hcs.mono (p2.keeps gs)) hnd (.bool j.isNone) (fun c rest hc hk => ?_) (fun c rest hc hk hmode => ?_) h
        · subst hk; subst hc; subst hst'
          exact .one (c_endRound hr hj)
        · subst hk
          subst hc; subst hst'
          refine .one ?_
          have hre := run_endRound (P := X.P) (j := j) hr
          obtain ⟨a1, a2, a3, a4, a5, a6, a7⟩ := c
          simp only at hmode
          subst hmode
          rcases hj with ⟨rfl, rfl⟩ | ⟨k, rfl, rfl⟩ | ⟨id, k, rfl, he, rfl⟩
          · exact step_lone_go (by simp [stepG, stepG.exec, hre, doReturn])
          · exact step_lone_go (by simp [stepG, stepG.exec, hre, doReturn])
          · exact step_lone_go (by simp [stepG, stepG.exec, hre, doReturn, he])
      cases j with
      | none => exact main .ready rfl h
      | some j => exact main .done rfl h
    · cases h

theorem stepRet_sim {gs : List Nat} {fn : FuncId} {t : Tr Value} {n : Nat} {tm : Array Value} {todo : List IItem} {todo' : List Item} {ds ds' : List Deferred} {kd : CallKind} {rd rd' : Option Nat} {cs : List IFrame} {cs' cs0 : List Frame} {c' : Cfg}
    (hH : HRel base W0 μ H W) (hlaid : LaidRel X μ) (ht : TRel μ t n tm) (hi : ItsRel μ todo todo') (hd : DefsRel μ ds ds') (hrd : RdRel μ rd rd') (hcs : FsRel X μ H gs cs cs') (hnd : gs.Nodup)
    (h : stepRet X ⟨fn, t, n, todo, ds, true, kd, rd⟩ cs H = some c') : StepSim X base W0 cs0 c' (lone ⟨fn, tm, todo', ds', .returning, kd, rd'⟩ (cs' ++ cs0) W) := by
  unfold stepRet at h
  simp only at h
  cases hd with
  | nil =>
    simp only at h
    split at h
    · rename_i v hres
      obtain ⟨f, v', hf, hrun, hv⟩ := results_sim hH ht hres
      refine returnI_sim hH hlaid hcs hnd hv (fun c rest hc hk => ?_) (fun c rest hc hk hmode => ?_) h
      · subst hk; subst hc; exact .one (c_return hf hrun)
      · subst hk; subst hc
        exact .one (c_returnD hf hrun (.inl hmode))
    · cases h
  | @cons d d' l l' hdr hdt =>
    obtain ⟨tgt, args⟩ := d
    obtain ⟨tgt', args'⟩ := d'
    obtain ⟨htg, hargs⟩ := hdr
    simp only at h htg hargs
    split at h
    · rename_i b
      cases htg with
      | collected _ T hT =>
        split at h
        · rename_i q hget
          cases h
          obtain ⟨o', ho', hor⟩ := hH.obj b _ hget T hT
          cases hor with
          | deferred _ q' hq =>
            obtain ⟨g1, g2⟩ := hH.setObj (o1 := .deferred none) (o1' := .deferred none) hget rfl hT (.deferredNone T)
            have hrun : (Instr.takeDeferred T.c).run X.P W = .ok q' { W with heap := W.heap.setIfInBounds T.c (.deferred none) } := by
              simp [Instr.takeDeferred, run_getObj' (P := X.P) ho' (by intro c t f; simp), run_setObj' (P := X.P) ho' (by intro c t f; simp)]
            exact ⟨μ, _, cs', _, .one (c_retCollected hrun), g1, hlaid, [], gs, .plain fn t n tm todo todo' _ _ true kd rd rd' ht hi (hq.append hdt) hrd, hcs.mono (g2.keeps gs), hnd⟩
        · cases h
    · rename_i g captured
      cases htg with
      | fn _ fn' _ ys' hfn hy =>
        cases hfn
        -- entering with the kind of a deferred call
        unfold enterI at h
        have hat : intrAt X g (args.toList ++ captured.toList) .deferred H = none := by unfold intrAt; split <;> rfl
        simp only [hat] at h
        · split at h
          · rename_i nn cc he
            cases hle : Nat.ble (args.toList ++ captured.toList).length nn
            · simp only [hle, cond_false] at h; cases h
            · simp only [hle, cond_true, Option.some.injEq] at h
              subst h
              have hal : LRel μ (args.toList ++ captured.toList) (args' ++ ys').toList := by simp only [Array.toList_append]; exact hargs.append hy
              refine ⟨μ, _, ⟨fn, tm, todo', l', .returning, kd, rd'⟩ :: cs', W, .one (c_retDefer (d := ⟨.fn (.func g) ys', args'⟩) (f := g) (args := args' ++ ys') (by intro b e; cases e) ?_), hH, hlaid, [], [] ++ gs, ?_, .cons ?_ hcs, hnd⟩
              · simp only [invoke]; exact run_callFunc he _ W
              · rw [enter_eq he]
                exact .plain g _ nn _ _ _ [] [] false .deferred none none (enter_rel hal (Nat.le_of_ble_eq_true hle)) (.cons (.code cc) .nil) .nil .none
              · exact .plain fn t n tm todo todo' l l' true kd rd rd' ht hi hdt hrd
          · cases h
    · cases h

end
end Go.Ideal

namespace Go.Ideal
section
variable {X : Ctx} {base : Env} {W0 : World} {μ : Inj} {H : IHeap} {W : World}

def Unl (listed : Array Bool) (i : Nat) : Prop := listed.getD i true = false

theorem ready_deps {ops : Array Oper} {listed : Array Bool} {i : Nat} (h : (!listed.getD i true && ((ops[i]?).map (·.after.all fun e => !Region.binds .any e || listed.getD e.on false)).getD false) = true) :
    Unl listed i ∧ ∃ o, ops[i]? = some o ∧ ∀ d ∈ depsOf o, listed.getD d false = true := by
  simp only [Bool.and_eq_true, Bool.not_eq_true'] at h
  refine ⟨h.1, ?_⟩
  cases ho : ops[i]? with
  | none => simp [ho] at h
  | some o =>
    refine ⟨o, rfl, fun d hd => ?_⟩
    have h2 := h.2
    simp only [ho, Option.map_some, Option.getD_some] at h2
    unfold depsOf at hd
    obtain ⟨e, he, rfl⟩ := List.mem_map.1 hd
    obtain ⟨he1, he2⟩ := List.mem_filter.1 he
    have := (Array.all_eq_true_iff_forall_mem.1 h2) e (by simpa using he1)
    rw [he2] at this
    simpa using this

theorem lin_topo {ops : Array Oper} : ∀ (fuel t : Nat) (listed : Array Bool), listed.size = ops.size → Topo ops (Region.linearise.go .any ops fuel t listed []) ∧ ∀ i ∈ Region.linearise.go .any ops fuel t listed [], Unl listed i := by
  intro fuel
  induction fuel with
  | zero => intro t listed _; simp [Region.linearise.go, Topo]
  | succ fuel ih =>
    intro t listed hsz
    unfold Region.linearise.go
    simp only
    split
    · rename_i i hi
      have hmem := List.mem_of_getElem? hi
      obtain ⟨hlt, hready⟩ := List.mem_filter.1 hmem
      obtain ⟨hu, o, ho, hd⟩ := ready_deps hready
      rw [linearise_go_acc]
      have hi0 : i < ops.size := by simpa using hlt
      obtain ⟨h1, h2⟩ := ih (t / _) (listed.setIfInBounds i true) (by simpa using hsz)
      simp only [List.reverse_cons, List.reverse_nil, List.nil_append, List.singleton_append]
      have hni : ∀ j ∈ Region.linearise.go .any ops fuel (t / (List.filter (fun i => !listed.getD i true && (Option.map (fun x => x.after.all fun e => !Region.binds Region.Mode.any e || listed.getD e.on false) ops[i]?).getD false) (List.range ops.size)).length) (listed.setIfInBounds i true) [], j ≠ i ∧ Unl listed j := by
        intro j hj
        have := h2 j hj
        unfold Unl at this ⊢
        refine ⟨?_, ?_⟩
        · rintro rfl
          rw [Array.getD_eq_getD_getElem?, Array.getElem?_setIfInBounds] at this
          simp [hsz, hi0] at this
        · by_cases e : j = i
          · subst e
            rw [Array.getD_eq_getD_getElem?, Array.getElem?_setIfInBounds] at this
            simp [hsz, hi0] at this
          · rwa [getD_set_ne _ (Ne.symm e)] at this
      refine ⟨⟨⟨o, ho, fun d hdd hm => ?_⟩, fun hm => (hni i hm).1 rfl, h1⟩, fun j hj => ?_⟩
      · have hl := hd d hdd
        have hun : Unl listed d := by
          rcases List.mem_cons.1 hm with rfl | hm
          · exact hu
          · exact (hni d hm).2
        unfold Unl at hun
        have hdlt : d < listed.size := by
          rcases Nat.lt_or_ge d listed.size with q | q
          · exact q
          · rw [Array.getD_eq_getD_getElem?, Array.getElem?_eq_none q] at hl; simp at hl
        rw [Array.getD_eq_getD_getElem?, Array.getElem?_eq_getElem hdlt] at hl hun
        simp at hl hun
        rw [hl] at hun; cases hun
      · rcases List.mem_cons.1 hj with rfl | hj
        · exact hu
        · exact (hni j hj).2
    · simp [Topo]

theorem some_ready {P : Program} {ops : Array Oper} {listed : Array Bool} (hsz : listed.size = ops.size) : ∀ (plan : List PE) (D : List Nat), PlanWf ops plan → okPlan P ops D plan = true → (∀ d ∈ D, listed.getD d false = true) → (∃ i, i < ops.size ∧ Unl listed i) →
    ∃ i, i < ops.size ∧ (!listed.getD i true && ((ops[i]?).map (·.after.all fun e => !Region.binds .any e || listed.getD e.on false)).getD false) = true := by
  intro plan
  induction plan with
  | nil =>
    intro D _ hok hD ⟨i, hi, hu⟩
    unfold okPlan at hok
    have h1 := memB_iff.1 (List.all_eq_true.1 hok i (by simpa using hi))
    have h2 := hD i h1
    unfold Unl at hu
    rw [Array.getD_eq_getD_getElem?, Array.getElem?_eq_getElem (by omega)] at h2 hu
    simp at h2 hu
    rw [h2] at hu; cases hu
  | cons e plan ih =>
    intro D hwf hok hD hex
    have hwf' : PlanWf ops plan := fun e he => hwf e (by simp [he])
    cases e with
    | chk j o =>
      unfold okPlan at hok
      simp only [Bool.and_eq_true] at hok
      exact ih D hwf' hok.2 hD hex
    | op i o =>
      obtain ⟨h1, h2, h3, _⟩ := okPlan_op hok
      have hio : ops[i]? = some o := hwf (.op i o) (by simp)
      have hi : i < ops.size := (Array.getElem?_eq_some_iff.1 hio).1
      cases hl : listed.getD i true with
      | true =>
        refine ih (i :: D) hwf' h3 ?_ hex
        intro d hd
        rcases List.mem_cons.1 hd with rfl | hd
        · rw [Array.getD_eq_getD_getElem?, Array.getElem?_eq_getElem (by omega)] at hl ⊢
          simpa using hl
        · exact hD d hd
      | false =>
        refine ⟨i, hi, ?_⟩
        simp only [hl, Bool.not_false, Bool.true_and, hio, Option.map_some, Option.getD_some]
        rw [Array.all_eq_true_iff_forall_mem]
        intro e he
        cases hb : Region.binds .any e
        · rfl
        · simp only [Bool.not_true, Bool.false_or]
          exact hD _ (h2 _ (List.mem_map.2 ⟨e, List.mem_filter.2 ⟨by simpa using he, hb⟩, rfl⟩))

theorem filter_le {l : List Nat} {p q : Nat → Bool} (h : ∀ x, q x = true → p x = true) : (l.filter q).length ≤ (l.filter p).length := by
  induction l with
  | nil => simp
  | cons b l ih =>
    simp only [List.filter_cons]
    cases hq : q b
    · cases hp : p b
      · simpa using ih
      · simp; omega
    · rw [h b hq]; simpa using ih
theorem filter_lt {l : List Nat} {p q : Nat → Bool} (h : ∀ x, q x = true → p x = true) {a : Nat} (ha : a ∈ l) (hp : p a = true) (hq : q a = false) : (l.filter q).length < (l.filter p).length := by
  induction l with
  | nil => cases ha
  | cons b l ih =>
    simp only [List.filter_cons]
    have hle := filter_le (l := l) h
    rcases List.mem_cons.1 ha with rfl | ha
    · rw [hp, hq]; simp; omega
    · have := ih ha
      cases hqb : q b
      · cases hpb : p b
        · simpa using this
        · simp; omega
      · rw [h b hqb]; simpa using this

theorem lin_all {P : Program} {ops : Array Oper} {plan : List PE} (hwf : PlanWf ops plan) (hok : okPlan P ops [] plan = true) : ∀ (fuel t : Nat) (listed : Array Bool), listed.size = ops.size → ((List.range ops.size).filter fun i => !listed.getD i true).length ≤ fuel →
    ∀ i, i < ops.size → Unl listed i → i ∈ Region.linearise.go .any ops fuel t listed [] := by
  intro fuel
  induction fuel with
  | zero =>
    intro t listed hsz hlen i hi hu
    have : i ∈ (List.range ops.size).filter fun i => !listed.getD i true := List.mem_filter.2 ⟨by simpa using hi, by unfold Unl at hu; rw [hu]; rfl⟩
    have := List.length_pos_of_mem this
    omega
  | succ fuel ih =>
    intro t listed hsz hlen i hi hu
    unfold Region.linearise.go
    simp only
    obtain ⟨r, hr1, hr2⟩ := some_ready hsz plan [] hwf hok (fun d hd => by cases hd) ⟨i, hi, hu⟩
    have hne : (List.filter (fun i => !listed.getD i true && (Option.map (fun x => x.after.all fun e => !Region.binds Region.Mode.any e || listed.getD e.on false) ops[i]?).getD false) (List.range ops.size)).length ≠ 0 := by
      intro e
      have := List.eq_nil_of_length_eq_zero e
      have hm : r ∈ (List.filter (fun i => !listed.getD i true && (Option.map (fun x => x.after.all fun e => !Region.binds Region.Mode.any e || listed.getD e.on false) ops[i]?).getD false) (List.range ops.size)) := List.mem_filter.2 ⟨by simpa using hr1, hr2⟩
      rw [this] at hm; cases hm
    split
    · rename_i q hq
      have hmem := List.mem_of_getElem? hq
      obtain ⟨hlt, hready⟩ := List.mem_filter.1 hmem
      obtain ⟨huq, _⟩ := ready_deps hready
      have hq0 : q < ops.size := by simpa using hlt
      rw [linearise_go_acc]
      simp only [List.reverse_cons, List.reverse_nil, List.nil_append, List.singleton_append]
      by_cases e : i = q
      · subst e; simp
      · refine List.mem_cons_of_mem _ (ih _ _ (by simpa using hsz) ?_ i hi ?_)
        · have hsub : ((List.range ops.size).filter fun i => !(listed.setIfInBounds q true).getD i true).length < ((List.range ops.size).filter fun i => !listed.getD i true).length := by
            refine filter_lt (a := q) (fun x hx => ?_) (by simpa using hq0) (by unfold Unl at huq; rw [huq]; rfl) ?_
            · by_cases ex : x = q
              · subst ex
                rw [Array.getD_eq_getD_getElem?, Array.getElem?_setIfInBounds] at hx
                simp [hsz, hq0] at hx
              · rw [getD_set_ne _ (Ne.symm ex)] at hx; exact hx
            · rw [Array.getD_eq_getD_getElem?, Array.getElem?_setIfInBounds]
              simp [hsz, hq0]
          omega
        · unfold Unl at hu ⊢
          rw [getD_set_ne _ (Ne.symm e)]; exact hu
    · rename_i hq
      rw [List.getElem?_eq_none_iff] at hq
      have := Nat.mod_lt t (Nat.pos_of_ne_zero hne)
      omega

def PlanOk (X : Ctx) : Prop := X.P.follows .mixedOrders = true ∧ ∀ ops p, X.plan ops = some p → okStat X.P ops = true ∧ PlanWf ops p ∧ okPlan X.P ops [] p = true

theorem sched_ok {P : Program} {ops : Array Oper} {plan : List PE} (hwf : PlanWf ops plan) (hok : okPlan P ops [] plan = true) (t : Nat) : Topo ops (Region.schedule true ops t) ∧ ∀ i, i < ops.size → i ∈ Region.schedule true ops t := by
  have e : Region.schedule true ops t = Region.linearise.go .any ops ops.size t (Array.replicate ops.size false) [] := by
    simp [Region.schedule, Region.linearise]
  rw [e]
  refine ⟨(lin_topo ops.size t _ (by simp)).1, fun i hi => lin_all hwf hok ops.size t _ (by simp) ?_ i hi ?_⟩
  · have := List.length_filter_le (fun i => !(Array.replicate ops.size false).getD i true) (List.range ops.size)
    simpa using this
  · unfold Unl
    rw [Array.getD_eq_getD_getElem?, Array.getElem?_replicate]
    simp [hi]

theorem c_draw {P : Program} {fn : FuncId} {tm : Array Value} {k : List Item} {ds : List Deferred} {kd : CallKind} {rd : Option Nat} {cs : List Frame} {id : Nat} {ops : Array Oper} :
    step P (lone ⟨fn, tm, .code (.region id ops true) :: k, ds, .run, kd, rd⟩ cs W) =
      .next (lone ⟨fn, tm, .inRegion ops (Region.schedule (P.follows .mixedOrders) ops (W.tape W.drawn (.order fn id))) :: k, ds, .run, kd, rd⟩ cs { W with drawn := W.drawn + 1 }) :=
  step_lone_go (by simp [stepG, stepG.exec, choose, Sem.run, Question.forced, Question.cut])

end
end Go.Ideal

namespace Go.Ideal
section
variable {X : Ctx} {base : Env} {W0 : World} {μ : Inj} {H : IHeap} {W : World}

theorem range_map (ops : Array Oper) : (List.range ops.size).map (ops[·]?) = ops.toList.map some := by
  apply List.ext_getElem?
  intro i
  simp only [List.getElem?_map, Array.getElem?_toList]
  by_cases h : i < ops.size
  · simp [h]
  · simp [h]

theorem c_rangeFuncV {P : Program} {fn : FuncId} {tm : Array Value} {k : List Item} {ds : List Deferred} {kd : CallKind} {rd : Option Nat} {cs : List Frame} {f : Operand} {ps : Array Tmp} {a b : Code} {l : Nat} {mark : List Deferred} {W' W2 : World} {v : Value}
    (hl : (Instr.enterLoop fn tm ps a b rd).run P W = .ok (l, mark) W')
    (hr : (do let d ← resolve (Frame.eval ⟨fn, tm, .inRangeFunc l :: k, mark ++ ds, .run, kd, rd⟩) { callee := .value f, args := #[.const (.func (.yield l) #[] #[])], argTypes := #[] } 0; invoke d.target d.args : Sem Next).run P W' = .ok (.value v) W2) :
    step P (lone ⟨fn, tm, .code (.rangeFunc f ps a b) :: k, ds, .run, kd, rd⟩ cs W) = .next (lone (Frame.finish ⟨fn, tm, .inRangeFunc l :: k, mark ++ ds, .run, kd, rd⟩ v) cs W2) := by
  refine step_lone_go ?_
  simp only [stepG, stepG.exec, Sem.runT_eq, hl, GStep.bare_after]
  simp only [stepG.apply, Sem.runT_eq, if_true, GStep.bare_after]
  rw [hr]
  rfl

theorem rangeCall_sim (hok : IntrOk X base W0) {gs : List Nat} {fn : FuncId} {t : Tr Value} {n : Nat} {tm : Array Value} {k : List IItem} {k' : List Item} {ds' ds1 mark : List Deferred} {kd : CallKind} {rd rd' : Option Nat} {cs : List IFrame} {cs' cs0 : List Frame} {c' : Cfg}
    {f : Operand} {ps : Array Tmp} {a b : Code} {l : Nat} {T : Tgt} {μ1 : Inj} {H1 : IHeap} {W1 : World}
    (hH : HRel base W0 μ1 H1 W1) (hlaid : LaidRel X μ1) (ht : TRel μ1 t n tm) (hk : ItsRel μ1 k k') (hd : DefsRel μ1 ds1 (mark ++ ds')) (hrd : RdRel μ1 rd rd') (hcs : FsRel X μ1 H1 gs cs cs') (hnd : gs.Nodup) (hT : μ1 l = some T)
    (hl : (Instr.enterLoop fn tm ps a b rd').run X.P W = .ok (T.c, mark) W1)
    (h : callI X (ieval X t f) [.func (.yield l) ⟨[]⟩ ⟨[]⟩] ⟨fn, t, n, .inRangeFunc l :: k, ds1, false, kd, rd⟩ cs H1 = some c') :
    StepSim X base W0 cs0 c' (lone ⟨fn, tm, .code (.rangeFunc f ps a b) :: k', ds', .run, kd, rd'⟩ (cs' ++ cs0) W) := by
  have hfr : FRel X μ1 H1 [] ⟨fn, t, n, .inRangeFunc l :: k, ds1, false, kd, rd⟩ ⟨fn, tm, .inRangeFunc T.c :: k', mark ++ ds', .run, kd, rd'⟩ :=
    .plain fn t n tm _ _ _ _ false kd rd rd' ht (.cons (.inRangeFunc l T hT) hk) hd hrd
  have hf := eval_rel (fr := ⟨fn, tm, .inRangeFunc T.c :: k', mark ++ ds', .run, kd, rd'⟩) hlaid ht f
  have hyv : LRel μ1 [.func (.yield l) ⟨[]⟩ ⟨[]⟩] [.func (.yield T.c) #[] #[]] := .cons (VRel.func_iff.2 ⟨_, _, _, rfl, .yield l T hT, .nil, .nil⟩) .nil
  have hmap : ∀ fr : Frame, (#[Operand.const (Value.func (Fn.yield T.c) #[] #[])] : Array Operand).map fr.eval = #[.func (.yield T.c) #[] #[]] := fun fr => by simp [Frame.eval]
  unfold callI at h
  split at h
  · rename_i g first captured hfe
    rw [hfe] at hf
    obtain ⟨fn', xs', ys', hfe', hfn, hx1, hy1⟩ := VRel.func_iff.1 hf
    cases hfn
    refine enterI_sim hok (args' := xs' ++ #[.func (.yield T.c) #[] #[]] ++ ys') hH hlaid hfr hcs hnd ?_ (fun nn cc he => .one (c_rangeFunc hl ?_)) (fun v hv => ?_) h
    · simp only [Array.toList_append]; exact (hx1.append hyv).append hy1
    · simp only [resolve, hfe', Deferred.ofValue, Sem.run_bind, Sem.run_pure, Result.andThen_ok, invoke, hmap]
      exact run_callFunc he _ _
    · exact .one (c_rangeFuncV hl (by simp only [resolve, hfe', Deferred.ofValue, Sem.run_bind, Sem.run_pure, Result.andThen_ok, invoke, hmap]; exact hv))
  · rename_i l2 first captured hfe
    rw [hfe] at hf
    obtain ⟨fn', xs', ys', hfe', hfn, hx1, hy1⟩ := VRel.func_iff.1 hf
    cases hfn with
    | yield _ T2 hT2 =>
      refine yieldI_sim (args' := xs' ++ #[.func (.yield T.c) #[] #[]]) hH hlaid hfr hcs hnd ?_ hT2 (fun f2 t2 a2 b2 hy => .one (c_rangeFuncY hl ?_)) h
      · simp only [Array.toList_append]; exact hx1.append hyv
      · simp only [resolve, hfe', Deferred.ofValue, Sem.run_bind, Sem.run_pure, Result.andThen_ok, invoke, hmap]
        exact hy
  · cases h

end
end Go.Ideal

namespace Go.Ideal
section
variable {X : Ctx} {base : Env} {W0 : World} {μ : Inj} {H : IHeap} {W : World}

theorem operI_plain {o : Oper} {fr : IFrame} {cs : List IFrame} {c' : Cfg} (hc : clsOf X.P o ≠ 2) (h : operI X o fr cs H = some c') : ∃ v H' fr1, iop X.P (ieval X fr.tmps) o H = some (v, H') ∧ finishI fr v = some fr1 ∧ c' = ⟨fr1, cs, H'⟩ := by
  have key : (match iop X.P (ieval X fr.tmps) o H with
      | some (v, H') => match finishI fr v with
        | some fr' => some (⟨fr', cs, H'⟩ : Cfg)
        | none => none
      | none => none) = some c' → ∃ v H' fr1, iop X.P (ieval X fr.tmps) o H = some (v, H') ∧ finishI fr v = some fr1 ∧ c' = ⟨fr1, cs, H'⟩ := by
    intro hm
    split at hm
    · rename_i v H' hio
      split at hm
      · rename_i fr1 hfin
        cases hm
        exact ⟨v, H', fr1, hio, hfin, rfl⟩
      · cases hm
    · cases hm
  unfold operI at h
  split at h
  · rename_i c hop
    split at h
    · rename_i b hcal
      cases hb : isRec b
      · simp only [hb, cond_false] at h; exact key h
      · exfalso
        apply hc
        unfold clsOf
        rw [hop]
        simp only [hcal]
        cases b <;> first | rfl | cases hb
    · rename_i f hcal
      exfalso
      apply hc
      unfold clsOf
      rw [hop]
      simp only [hcal]
    · cases h
  · rename_i c hop
    exact absurd hop (cls_defer hc c)
  · exact key h

theorem DRel.ahead {ops : Array Oper} {t : Tr Value} {n i d : Nat} {tm : Array Value} {D : List Nat} {rest : List PE} {idx : List Nat} {G G' : List (Nat × Nat)} {o : Oper} {v : Value} {H' : IHeap} (ho : ops[i]? = some o) (hd : o.dst = some d) (hdn : d < n) (hcls : clsOf X.P o ≠ 2)
    (h : DRel X μ H ops t n tm D (.op i o :: rest) idx G (FactNow X H t (.op i o :: rest))) (hext : HExt H H') (hn : H.next ≤ H'.next)
    (hG : ∀ p ∈ G, p ∈ G') (hnew : PenOf X μ H' ops (t.put d (some v)) G' (FactNow X H' (t.put d (some v)) rest) i o) (hgnd : (G'.map Prod.snd).Nodup) (hglt : ∀ b ∈ G'.map Prod.snd, b < H'.next) :
    DRel X μ H' ops (t.put d (some v)) n tm (i :: D) rest idx G' (FactNow X H' (t.put d (some v)) rest) := by
  obtain ⟨hiD, hdeps, hok, _⟩ := okPlan_op h.okp
  refine ⟨h.stat, fun e he => h.wf e (by simp [he]), hok, h.topo, ?_, ?_, h.sz, ?_, ?_, ?_, hgnd, hglt⟩
  · intro j oj hj hnj
    obtain ⟨h1, h2⟩ := h.clo j oj hj hnj
    exact ⟨by simp [h1], h2⟩
  · intro j oj hj hjD q hq
    rcases List.mem_cons.1 hjD with rfl | hjD
    · rw [ho] at hj; cases hj; simp [hdeps q hq]
    · simp [h.dcl j oj hj hjD q hq]
  · intro u hu
    have hui : i ∈ idx := by
      rcases Classical.em (i ∈ idx) with q | q
      · exact q
      · exact absurd (h.clo i o ho q).1 hiD
    have hne : u ≠ d := by rintro rfl; exact hu i o ho (by simp) hui hd
    rw [look_put_ne _ _ hne]
    exact h.tmp u fun j oj hj hjD hji => hu j oj hj (by simp [hjD]) hji
  · intro j oj hj hjD hji
    rcases List.mem_cons.1 hjD with rfl | hjD
    · rw [ho] at hj; cases hj; exact hnew
    · have hap := h.apart ho hiD hd hj hjD (fun q => absurd q hcls)
      have hlook : ∀ u, u ≠ d → look (t.put d (some v)) u = look t u := fun u hu => look_put_ne _ _ hu
      have hr : ∀ u ∈ readsOf ops oj, look (t.put d (some v)) u = look t u := fun u hu => hlook u (by rintro rfl; exact hap.1 hu)
      have hdj : ∀ q, oj.dst = some q → look (t.put d (some v)) q = look t q := fun q hq => hlook q (by rintro rfl; exact hap.2 hq)
      have hp : PenOf X μ H ops (t.put d (some v)) G (FactNow X H' (t.put d (some v)) rest) j oj := by
        refine (h.pen j oj hj hjD hji).congr hr hdj fun q hq _ hc0 hf => ?_
        rcases hf with hf | ⟨H1, hf⟩
        · simp [lead] at hf
        · refine .inr ⟨H', ?_⟩
          rw [iop_tmps hr, hdj q hq]
          exact (iop_zero hc0 hf).2 H' hext
      obtain ⟨q, h1, h0, h2⟩ := hp
      refine ⟨q, h1, h0, ?_⟩
      rcases h2 with h2 | h2 | ⟨a, b, c, hc, obj, mk, e1, e2, e3, e4, e5⟩
      · exact .inl h2
      · exact .inr (.inl h2)
      · exact .inr (.inr ⟨a, b, c, hG _ hc, obj, mk, e1, e2, Nat.lt_of_lt_of_le e3 hn, e4, hext _ _ e5⟩)
  · intro j oj q hj hjD hq
    rcases List.mem_cons.1 hjD with rfl | hjD
    · rw [ho] at hj; cases hj
      rw [hd] at hq; cases hq; exact hdn
    · exact h.dlt j oj q hj hjD hq

theorem drawn_sim (hok : IntrOk X base W0) {fn : FuncId} {t : Tr Value} {n : Nat} {tm : Array Value} {ops : Array Oper} {plan : List PE} {idx D : List Nat} {G : List (Nat × Nat)} {k : List IItem} {k' : List Item} {ds ds' : List Deferred} {kd : CallKind} {rd rd' : Option Nat}
    {cs : List IFrame} {cs' cs0 : List Frame} {gs : List Nat} {c' : Cfg} (hH : HRel base W0 μ H W) (hlaid : LaidRel X μ) (hD : DRel X μ H ops t n tm D plan idx G (FactNow X H t plan)) (hk : ItsRel μ k k') (hd : DefsRel μ ds ds') (hr : RdRel μ rd rd')
    (hcs : FsRel X μ H gs cs cs') (hnd : (G.map Prod.snd ++ gs).Nodup) (h : stepI X ⟨⟨fn, t, n, .dreg ops plan :: k, ds, false, kd, rd⟩, cs, H⟩ = some c') :
    StepSim X base W0 cs0 c' (lone ⟨fn, tm, .inRegion ops idx :: k', ds', .run, kd, rd'⟩ (cs' ++ cs0) W) := by
  unfold stepI at h
  simp only [cond_false] at h
  cases plan with
  | nil =>
    simp only [Option.some.injEq] at h
    subst h
    have hall : ∀ j ∈ idx, j ∈ D := by
      intro j hj
      have hlt : ∀ (l : List Nat), Topo ops l → ∀ j ∈ l, j < ops.size := by
        intro l
        induction l with
        | nil => intro _ j hj; cases hj
        | cons a l ih =>
          intro ht j hj
          obtain ⟨⟨o, ho, _⟩, _, h3⟩ := ht
          rcases List.mem_cons.1 hj with rfl | hj
          · exact (Array.getElem?_eq_some_iff.1 ho).1
          · exact ih h3 j hj
      have hok := hD.okp
      unfold okPlan at hok
      exact memB_iff.1 (List.all_eq_true.1 hok j (by simpa using hlt idx hD.topo j hj))
    obtain ⟨μ1, W1, tm1, G1, q1, q2, q3, q4⟩ := flushAll (fn := fn) (k' := k') (ds' := ds') (kd := kd) (rd' := rd') (cs := cs' ++ cs0) (gs := gs) rfl idx μ W tm G hH hlaid hD hall hnd
    refine ⟨μ1, _, cs', W1, q1.trans (.one c_regionEnd), q2, hlaid.mono q4.le, [], gs, .plain fn t n tm1 k k' ds ds' false kd rd rd' ⟨q3.sz, fun u => q3.tmp u fun _ _ _ _ hm => by cases hm⟩ (hk.mono q4.le) (hd.mono q4.le) (hr.mono q4.le), hcs.mono q4, (List.nodup_append.1 hnd).2.1⟩
  | cons e rest =>
    cases e with
    | chk j o =>
      simp only at h
      have hoj : ops[j]? = some o := hD.wf (.chk j o) (by simp)
      have hokp := hD.okp
      unfold okPlan at hokp
      simp only [Bool.and_eq_true] at hokp
      have hwf : PlanWf ops rest := fun e he => hD.wf e (by simp [he])
      have fin : (∀ d, o.dst = some d → wantedI ops o t = some true → clsOf X.P o = 0 → ∃ H1, iop X.P (ieval X t) o H = some (look t d, H1)) → c' = ⟨⟨fn, t, n, .dreg ops rest :: k, ds, false, kd, rd⟩, cs, H⟩ →
          StepSim X base W0 cs0 c' (lone ⟨fn, tm, .inRegion ops idx :: k', ds', .run, kd, rd'⟩ (cs' ++ cs0) W) := by
        rintro hfact rfl
        refine ⟨μ, _, cs', W, .refl _ _, hH, hlaid, G.map Prod.snd, gs, .drawn fn t n tm ops rest idx D G k k' ds ds' kd rd rd' ⟨hD.stat, hwf, hokp.2, hD.topo, hD.clo, hD.dcl, hD.sz, hD.tmp, fun i oi hi hiD hii => ?_, hD.dlt, hD.gnd, hD.glt⟩ hk hd hr, hcs, hnd⟩
        refine (hD.pen i oi hi hiD hii).congr (fun _ _ => rfl) (fun _ _ => rfl) fun d hdd hw hc0 hf => ?_
        rcases hf with hf | hf
        · simp only [lead, List.mem_cons] at hf
          rcases hf with rfl | hf
          · rw [hoj] at hi; cases hi
            exact .inr (hfact d hdd hw hc0)
          · exact .inl hf
        · exact .inr hf
      split at h
      · rename_i hw
        split at h
        · rename_i d v H1 hdd hio
          cases hs : sameN 8 v (look t d)
          · simp [hs] at h
          · simp only [hs, cond_true, Option.some.injEq] at h
            refine fin (fun d2 hd2 _ _ => ?_) h.symm
            rw [hdd] at hd2; cases hd2
            exact ⟨H1, by rw [hio, sameN_eq 8 _ _ hs]⟩
        · cases h
      · rename_i hw
        simp only [Option.some.injEq] at h
        exact fin (fun d _ hw2 _ => by rw [hw] at hw2; cases hw2) h.symm
      · cases h
    | op i o =>
      simp only at h
      have hoi : ops[i]? = some o := hD.wf (.op i o) (by simp)
      obtain ⟨hiD, hdeps, hokr, hX⟩ := okPlan_op hD.okp
      have hii : i ∈ idx := by
        rcases Classical.em (i ∈ idx) with q | q
        · exact q
        · exact absurd (hD.clo i o hoi q).1 hiD
      by_cases hcls : clsOf X.P o = 2
      · -- both together
        obtain ⟨μ1, W1, tm1, G1, idx1, q1, q2, q3, q4, q5⟩ := flushTo (fn := fn) (k' := k') (ds' := ds') (kd := kd) (rd' := rd') (cs := cs' ++ cs0) (gs := gs) hcls idx μ W tm G hH hlaid hD hii hnd
        have hlaid1 := hlaid.mono q4.le
        have hcs1 := hcs.mono q4
        have hnd1 : (G1.map Prod.snd ++ gs).Nodup := hnd.sublist (q5.append (List.Sublist.refl _))
        have hsus := q3.suspend hcls hoi
        have hfr : ∀ ds1 ds1', DefsRel μ1 ds1 ds1' → FRel X μ1 H (G1.map Prod.snd) ⟨fn, t, n, .dreg ops (.op i o :: rest) :: k, ds1, false, kd, rd⟩ ⟨fn, tm1, .inRegion ops (i :: idx1) :: k', ds1', .run, kd, rd'⟩ := fun ds1 ds1' hd1 =>
          .susp fn t n tm1 ops i o rest idx1 D G1 k k' ds1 ds1' kd rd rd' hoi hsus (hk.mono q4.le) hd1 (hr.mono q4.le)
        have hreads := q3.reads hoi
        have hwant : ∀ b, wantedI ops o t = some b → Region.wanted o (yielded ops tm1) = b := fun b hb => wanted_rel' (fun q w u hg hu => hreads u (reads_guard hg hu)) hb
        have after : ∀ {m : Machine}, StepSim X base W0 cs0 c' m → Steps X.P (lone ⟨fn, tm, .inRegion ops idx :: k', ds', .run, kd, rd'⟩ (cs' ++ cs0) W) m → StepSim X base W0 cs0 c' (lone ⟨fn, tm, .inRegion ops idx :: k', ds', .run, kd, rd'⟩ (cs' ++ cs0) W) := by
          rintro m ⟨a1, a2, a3, a4, a5, a6⟩ hs
          exact ⟨a1, a2, a3, a4, hs.trans a5, a6⟩
        split at h
        · rename_i hw
          refine after (oper_sim hok q2 hlaid1 hoi (hd.mono q4.le) (hr.mono q4.le) hcs1 hnd1 hfr (fun x hx => eval_rel' hlaid1 x fun u hu => hreads u (reads_tmp (by rw [← hu]; exact hx))) (hwant true hw) h) q1
        · rename_i hw
          split at h
          · rename_i fr1 hfin
            cases h
            refine after ⟨μ1, _, cs', W1, .one (c_opSkip hoi (hwant false hw)), q2, hlaid1, G1.map Prod.snd, gs, finish_rel (hfr ds ds' (hd.mono q4.le)) (VRel.undef μ1) hfin, hcs1, hnd1⟩ q1
          · cases h
        · cases h
      · -- the ideal machine alone
        obtain ⟨d, hdd⟩ := stat_dst hD.stat hoi hcls
        have hcl01 : clsOf X.P o = 0 ∨ clsOf X.P o = 1 := by
          have : clsOf X.P o ≤ 2 := by
            unfold clsOf
            split <;> first | omega | (cases (bldE X.P _).isSome <;> decide) | (cases bytesT X.P _ <;> decide) | (split <;> first | omega | (split <;> omega))
          omega
        have hself : ∀ u ∈ readsOf ops o, u ≠ d := fun u hu e => (stat_reads hD.stat hoi hoi hu (by rw [e]; exact hdd)).elim (fun q => hiD (hdeps i q)) fun q => hcls q.1
        have hrd : ∀ v : Value, ∀ u ∈ readsOf ops o, look (t.put d (some v)) u = look t u := fun v u hu => look_put_ne _ _ (hself u hu)
        have hfinI : ∀ v fr1, finishI ⟨fn, t, n, .dreg ops (.op i o :: rest) :: k, ds, false, kd, rd⟩ v = some fr1 → d < n ∧ fr1 = ⟨fn, t.put d (some v), n, .dreg ops rest :: k, ds, false, kd, rd⟩ := by
          intro v fr1 hf
          unfold finishI at hf
          rw [forceV_eq] at hf
          simp only [hdd] at hf
          cases hlt : Nat.blt d n
          · simp [hlt] at hf
          · simp only [hlt, cond_true, Option.some.injEq] at hf
            exact ⟨Nat.le_of_ble_eq_true hlt, hf.symm⟩
        split at h
        · rename_i hw
          obtain ⟨v, H', fr1, hio, hfin, rfl⟩ := operI_plain hcls h
          obtain ⟨hdn, rfl⟩ := hfinI v fr1 hfin
          have hio0 : iop X.P (ieval X t) o H = some (v, H') := hio
          rcases hcl01 with hc | hc
          · obtain ⟨rfl, _⟩ := iop_zero hc hio0
            refine ⟨μ, _, cs', W, .refl _ _, hH, hlaid, G.map Prod.snd, gs, .drawn fn _ n tm ops rest idx (i :: D) G k k' ds ds' kd rd rd' (hD.ahead hoi hdd hdn hcls (fun _ _ hb => hb) (Nat.le_refl _) (fun _ hp => hp) ⟨d, hdd, hcls, .inr (.inl ⟨by rw [wantedI_congr (hrd v)]; exact hw, hc, .inr ⟨H', ?_⟩⟩)⟩ hD.gnd hD.glt) hk hd hr, hcs, hnd⟩
            rw [iop_tmps (hrd v), look_put_same]; exact hio0
          · obtain ⟨obj, mk, rfl, rfl, h3, h4, _⟩ := iop_one hc hio0
            have hfresh := hH.fresh H.next (Nat.le_refl _)
            have hnG : H.next ∉ G.map Prod.snd := fun hm => Nat.lt_irrefl _ (hD.glt _ hm)
            have hngs : H.next ∉ gs := fun hm => Nat.lt_irrefl _ (hcs.lt _ hm)
            have hext := HExt.alloc hH obj
            have hkeep : Keeps gs μ H μ (H.alloc obj) := ⟨Inj.le_refl _, by simp [IHeap.alloc], fun b _ hb hm => ⟨hm, by rw [IHeap.get_alloc, if_neg (by omega)]⟩⟩
            refine ⟨μ, _, cs', W, .refl _ _, hH.ghost obj, hlaid, ((i, H.next) :: G).map Prod.snd, gs, .drawn fn _ n tm ops rest idx (i :: D) ((i, H.next) :: G) k k' ds ds' kd rd rd' (hD.ahead hoi hdd hdn hcls hext (by simp [IHeap.alloc]) (fun _ hp => by simp [hp])
              ⟨d, hdd, hcls, .inr (.inr ⟨by rw [wantedI_congr (hrd _)]; exact hw, hc, H.next, by simp, obj, mk, look_put_same _ _ _, fun H2 => by rw [iop_tmps (hrd _)]; exact h3 H2, by simp [IHeap.alloc], hfresh.2, by rw [IHeap.get_alloc, if_pos rfl]⟩)⟩
              (by simp only [List.map_cons, List.nodup_cons]; exact ⟨hnG, hD.gnd⟩) ?_) hk hd hr, hcs.mono hkeep, ?_⟩
            · intro b hb
              simp only [List.map_cons, List.mem_cons] at hb
              rcases hb with rfl | hb
              · simp [IHeap.alloc]
              · have := hD.glt b hb; simp only [IHeap.alloc]; omega
            · simp only [List.map_cons, List.cons_append, List.nodup_cons]
              exact ⟨fun hm => (List.mem_append.1 hm).elim hnG hngs, hnd⟩
        · rename_i hw
          split at h
          · rename_i fr1 hfin
            cases h
            obtain ⟨hdn, rfl⟩ := hfinI _ fr1 hfin
            exact ⟨μ, _, cs', W, .refl _ _, hH, hlaid, G.map Prod.snd, gs, .drawn fn _ n tm ops rest idx (i :: D) G k k' ds ds' kd rd rd' (hD.ahead hoi hdd hdn hcls (fun _ _ hb => hb) (Nat.le_refl _) (fun _ hp => hp) ⟨d, hdd, hcls, .inl ⟨by rw [wantedI_congr (hrd _)]; exact hw, look_put_same _ _ _⟩⟩ hD.gnd hD.glt) hk hd hr, hcs, hnd⟩
          · cases h
        · cases h

end
end Go.Ideal

namespace Go.Ideal
section
variable {X : Ctx} {base : Env} {W0 : World} {μ : Inj} {H : IHeap} {W : World}

theorem step_sim (hok : IntrOk X base W0) (hplan : PlanOk X) {c c' : Cfg} {fr : Frame} {cs' cs0 : List Frame} (hm : MRel X base W0 μ c fr cs' W) (h : stepI X c = some c') :
    StepSim X base W0 cs0 c' (lone fr (cs' ++ cs0) W) := by
  obtain ⟨hH, hlaid, g, gs, hfr, hcs, hnd⟩ := hm
  obtain ⟨f0, cs, H⟩ := c
  simp only at hH hfr hcs
  cases hfr with
  | drawn fn t n tm ops plan idx D G k k' ds ds' kd rd rd' hD hk hd hr => exact drawn_sim hok hH hlaid hD hk hd hr hcs hnd h
  | plain fn t n tm todo todo' ds ds' r kd rd rd' ht hi hd hrd =>
    unfold stepI at h
    simp only at h
    cases r with
    | true =>
      simp only [cond_true] at h
      exact stepRet_sim hH hlaid ht hi hd hrd hcs hnd h
    | false =>
      simp only [cond_false] at h
      have fin : ∀ (k2 : List IItem) (k2' : List Item) , ItsRel μ k2 k2' → step X.P (lone ⟨fn, tm, todo', ds', .run, kd, rd'⟩ (cs' ++ cs0) W) = .next (lone ⟨fn, tm, k2', ds', .run, kd, rd'⟩ (cs' ++ cs0) W) →
          c' = ⟨⟨fn, t, n, k2, ds, false, kd, rd⟩, cs, H⟩ → StepSim X base W0 cs0 c' (lone ⟨fn, tm, todo', ds', modeOf false, kd, rd'⟩ (cs' ++ cs0) W) := by
        rintro k2 k2' hk2 hs rfl
        exact ⟨μ, _, cs', W, .one hs, hH, hlaid, [], gs, .plain fn t n tm k2 k2' ds ds' false kd rd rd' ht hk2 hd hrd, hcs, hnd⟩
      cases hi with
      | nil => exact leaveI_sim hH hlaid ht .nil hd hrd hcs hnd (.inl ⟨rfl, rfl⟩) h
      | @cons it it' k k' h1 hk =>
        simp only at h
        cases h1 with
        | reg ops l idx hidx =>
          simp only at h
          split at h
          · cases idx with
            | nil => exact fin k k' hk c_regionEnd (by cases h; rfl)
            | cons i idx => simp at hidx
          · rename_i o rest
            cases idx with
            | nil => simp at hidx
            | cons i idx =>
              simp only [List.map_cons, List.cons.injEq] at hidx
              split at h
              · rename_i hw
                refine oper_sim hok hH hlaid hidx.1 hd hrd hcs hnd (fun ds1 ds1' hd1 => .plain fn t n tm _ _ ds1 ds1' false kd rd rd' ht (.cons (.reg ops _ _ (by simp [hidx.1, hidx.2])) hk) hd1 hrd) (fun x _ => eval_rel hlaid ht x) (wanted_rel ht hw) h
              · rename_i hw
                split at h
                · rename_i fr1 hfin
                  cases h
                  refine ⟨μ, _, cs', W, .one (c_opSkip hidx.1 (wanted_rel ht hw)), hH, hlaid, [], gs, ?_, hcs, hnd⟩
                  exact finish_rel (.plain fn t n tm _ _ ds ds' false kd rd rd' ht (.cons (.reg ops (o :: rest) (i :: idx) (by simp [hidx.1, hidx.2])) hk) hd hrd) (VRel.undef μ) hfin
                · cases h
              · cases h
        | code c =>
          simp only at h
          split at h
          · rename_i a b; exact fin _ _ (.cons (.code a) (.cons (.code b) hk)) c_seq (by cases h; rfl)
          · rename_i id ops
            exact fin _ _ (.cons (.reg ops ops.toList _ (range_map ops)) hk) c_region (by cases h; rfl)
          · rename_i id ops
            split at h
            · rename_i p hp
              cases h
              obtain ⟨hmix, hpl⟩ := hplan
              obtain ⟨q1, q2, q3⟩ := hpl ops p hp
              obtain ⟨s1, s2⟩ := sched_ok q2 q3 (W.tape W.drawn (.order fn id))
              have hdr := c_draw (P := X.P) (W := W) (fn := fn) (tm := tm) (k := k') (ds := ds') (kd := kd) (rd := rd') (cs := cs' ++ cs0) (id := id) (ops := ops)
              rw [hmix] at hdr
              refine ⟨μ, _, cs', _, .one hdr, hH.drawn _, hlaid, [], gs, ?_, hcs, hnd⟩
              refine .drawn fn t n tm ops p _ [] [] k k' ds ds' kd rd rd' ⟨q1, q2, q3, s1, fun i o ho hni => absurd (s2 i (Array.getElem?_eq_some_iff.1 ho).1) hni, (fun _ _ _ h => by cases h), ht.1, fun u _ => ht.2 u, (fun _ _ _ h => by cases h), (fun _ _ _ _ h => by cases h), by simp, fun b hb => by simp at hb⟩ hk hd hrd
            · cases h
          · rename_i cnd a b
            have hev := eval_rel (fr := ⟨fn, tm, .code (.cond cnd a b) :: k', ds', .run, kd, rd'⟩) hlaid ht cnd
            split at h
            · rename_i x hx
              rw [hx] at hev
              have hev' : Frame.eval ⟨fn, tm, .code (.cond cnd a b) :: k', ds', .run, kd, rd'⟩ cnd = .bool x := by
                generalize Frame.eval ⟨fn, tm, .code (.cond cnd a b) :: k', ds', .run, kd, rd'⟩ cnd = q at hev
                cases hev; rfl
              exact fin _ _ (.cons (.code _) hk) (c_cond hev') (by cases h; rfl)
            · cases h
          · exact fin _ _ hk c_skip (by cases h; rfl)
          · exact fin _ _ hk c_label (by cases h; rfl)
          · rename_i id b; exact fin _ _ (.cons (.code b) (.cons (.inBlock id) hk)) c_block (by cases h; rfl)
          · rename_i b; exact fin _ _ (.cons (.code b) (.cons (.inLoop b) hk)) c_loop (by cases h; rfl)
          · rename_i b; exact fin _ _ (.cons (.code b) (.cons (.inScope b) hk)) c_scope (by cases h; rfl)
          · rename_i id
            have hex := exitTo_rel (id := id) hk
            split at h
            · rename_i k2 hq
              obtain ⟨k2', q1, q2⟩ := hex.1 k2 hq
              exact fin _ _ q2 (c_exit q1) (by cases h; rfl)
            · rename_i hq
              exact leaveI_sim hH hlaid ht (.cons (.code _) hk) hd hrd hcs hnd (.inr (.inr ⟨id, k', rfl, hex.2 hq, rfl⟩)) h
          · exact leaveI_sim hH hlaid ht (.cons (.code _) hk) hd hrd hcs hnd (.inr (.inl ⟨k', rfl, rfl⟩)) h
          · rename_i f ps a b
            split at h
            · rename_i l
              cases hrd with
              | some _ T hT =>
                split at h
                · rename_i q hget
                  obtain ⟨o', ho', hor⟩ := hH.obj l _ hget T hT
                  cases hor with
                  | loop _ aa R hta hda =>
                    have hal := hH.alloc (T := ⟨W.heap.size, 0, 0, 0⟩) (o := .loop ⟨.ready, none, fn, t, n, ps, a, b, q.defers⟩) rfl (.loop ⟨W.heap.size, 0, 0, 0⟩ ⟨.ready, none, fn, t, n, ps, a, b, q.defers⟩ tm R ht hda)
                    obtain ⟨g1, g2⟩ := hal
                    refine rangeCall_sim hok (mark := []) (T := ⟨W.heap.size, 0, 0, 0⟩) g1 (hlaid.mono g2.le) (ht.mono g2.le) (hk.mono g2.le) (hd.mono g2.le) (.some l T (g2.le _ _ hT)) (hcs.mono (g2.keeps gs)) hnd (Inj.ext_same _ _ _) (enterLoop_some ho') h
                · cases h
            · cases hrd
              have hal1 := hH.alloc (T := ⟨W.heap.size, 0, 0, 0⟩) (o := .deferred (some [])) (o' := .deferred (some [])) rfl (.deferred _ [] [] .nil)
              obtain ⟨g1, g2⟩ := hal1
              have hal2 := g1.alloc (T := ⟨W.heap.size + 1, 0, 0, 0⟩) (o := .loop ⟨.ready, none, fn, t, n, ps, a, b, H.next⟩) (by simp) (.loop ⟨W.heap.size + 1, 0, 0, 0⟩ ⟨.ready, none, fn, t, n, ps, a, b, H.next⟩ tm ⟨W.heap.size, 0, 0, 0⟩ (ht.mono g2.le) (Inj.ext_same _ _ _))
              obtain ⟨g3, g4⟩ := hal2
              have g5 := g2.trans g4
              refine rangeCall_sim hok (mark := [{ target := .collected W.heap.size, args := #[] }]) (T := ⟨W.heap.size + 1, 0, 0, 0⟩) g3 (hlaid.mono g5.le) (ht.mono g5.le) (hk.mono g5.le) ?_ .none (hcs.mono (g5.keeps gs)) hnd (Inj.ext_same _ _ _) enterLoop_none h
              exact .cons ⟨.collected H.next ⟨W.heap.size, 0, 0, 0⟩ (g4.le _ _ (Inj.ext_same _ _ _)), .nil⟩ (hd.mono g5.le)
          · cases h
        | inBlock id => exact fin _ _ hk c_inBlock (by cases h; rfl)
        | inScope b => exact fin _ _ hk c_inScope (by cases h; rfl)
        | inLoop b => exact fin _ _ (.cons (.code b) (.cons (.inLoop b) hk)) c_inLoop (by cases h; rfl)
        | inRangeFunc l T hT => cases h
        | beginRound =>
          simp only at h
          split at h
          · rename_i l
            cases hrd with
            | some _ T hT =>
              split at h
              · rename_i q hget
                split at h
                · rename_i hst
                  cases h
                  obtain ⟨r, hr, hst', hpe, hput⟩ := loop_put hH hget hT
                  obtain ⟨p1, p2⟩ := hput .busy q.pending
                  refine ⟨μ, _, cs', _, .one (c_beginRound hr (by rw [hst', hst])), ?_, hlaid, [], gs, .plain fn t n tm k k' ds ds' false kd (some l) (some T.c) ht hk hd (.some l T hT), hcs.mono (p2.keeps gs), hnd⟩
                  have e1 : ({ r with state := LoopState.busy } : Loop) = { r with state := .busy, pending := q.pending } := by rw [← hpe]
                  rw [e1]; exact p1
                · cases h
              · cases h
          · cases h
        | endRangeFunc l T hT =>
          simp only at h
          split at h
          · rename_i q hget
            obtain ⟨r, hr, hst', hpe, hput⟩ := loop_put hH hget hT
            obtain ⟨p1, p2⟩ := hput .exhausted q.pending
            have p1' : HRel base W0 μ (H.put l (.loop { q with state := .exhausted })) { W with heap := W.heap.setIfInBounds T.c (.loop { r with state := .exhausted }) } := by
              have e1 : ({ r with state := LoopState.exhausted } : Loop) = { r with state := .exhausted, pending := q.pending } := by rw [← hpe]
              rw [e1]; exact p1
            split at h
            · cases h
            · rename_i hnb
              have hs : r.state ≠ .busy := by rw [hst']; exact hnb
              have hce := c_endLoop (P := X.P) (fn := fn) (tm := tm) (k := k') (ds := ds') (kd := kd) (rd := rd') (cs := cs' ++ cs0) hr hs
              split at h
              · rename_i hp
                cases h
                have htd : (r.pending.map Item.code).toList ++ k' = k' := by rw [hpe, hp]; rfl
                rw [htd] at hce
                exact ⟨μ, _, cs', _, .one hce, p1', hlaid, [], gs, .plain fn t n tm k k' ds ds' false kd rd rd' ht hk hd hrd, hcs.mono (p2.keeps gs), hnd⟩
              · rename_i j hp
                cases h
                have htd : (r.pending.map Item.code).toList ++ k' = .code j :: k' := by rw [hpe, hp]; rfl
                rw [htd] at hce
                exact ⟨μ, _, cs', _, .one hce, p1', hlaid, [], gs, .plain fn t n tm _ _ ds ds' false kd rd rd' ht (.cons (.code j) hk) hd hrd, hcs.mono (p2.keeps gs), hnd⟩
          · cases h

end
end Go.Ideal

namespace Go.Ideal
section
variable {X : Ctx} {base : Env} {W0 : World} {μ : Inj} {H : IHeap} {W : World}

theorem runI_succ (n : Nat) (c : Cfg) : runI X (n + 1) c = match stepI X c with
    | some c' => runI X n c'
    | none => none := rfl

theorem run_sim (hok : IntrOk X base W0) (hplan : PlanOk X) {cs0 : List Frame} : ∀ (n : Nat) (c c' : Cfg) (μ : Inj) (fr : Frame) (cs : List Frame) (W : World), runI X n c = some c' → MRel X base W0 μ c fr cs W →
    ∃ μ' fr1 cs1 W1, Steps X.P (lone fr (cs ++ cs0) W) (lone fr1 (cs1 ++ cs0) W1) ∧ MRel X base W0 μ' c' fr1 cs1 W1 := by
  intro n
  induction n with
  | zero => intro c c' μ fr cs W h hm; cases h; exact ⟨μ, fr, cs, W, .refl _ _, hm⟩
  | succ n ih =>
    intro c c' μ fr cs W h hm
    rw [runI_succ] at h
    split at h
    · rename_i c1 hs
      obtain ⟨μ1, fr1, cs1, W1, s1, m1⟩ := step_sim (cs0 := cs0) hok hplan hm hs
      obtain ⟨μ2, fr2, cs2, W2, s2, m2⟩ := ih c1 c' μ1 fr1 cs1 W1 h m1
      exact ⟨μ2, fr2, cs2, W2, s1.trans s2, m2⟩
    · cases h

noncomputable def doneF (X : Ctx) (f : FuncId) (c : Cfg) : Option (Value × IHeap) :=
  match c with
  | ⟨⟨fn, t, _, todo, ds, r, kd, _⟩, cs, H⟩ =>
    match cs, ds, r, kd, todo with
    | [], [], true, .normal, _ => bif Nat.beq fn f then
        match resultsI X fn t H with
        | some v => some (v, H)
        | none => none
      else none
    | _, _, _, _, _ => none

def startC (f : FuncId) (t : Tr Value) (n : Nat) (code : Code) (H : IHeap) : Cfg := ⟨⟨f, t, n, [.code code], [], false, .normal, none⟩, [], H⟩

theorem start_rel (hH : HRel base W0 μ H W) (hlaid : LaidRel X μ) {f : FuncId} {n : Nat} {code : Code} (he : entry X.P f = some (n, code)) {args : List Value} {args' : Array Value} (ha : LRel μ args args'.toList) (hn : args.length ≤ n) :
    MRel X base W0 μ (startC f (fillTmps 0 args .leaf) n code H) (Frame.enter X.P f args' .normal) [] W := by
  refine ⟨hH, hlaid, [], [], ?_, .nil, by simp⟩
  rw [enter_eq he]
  exact .plain f _ n _ _ _ [] [] false .normal none none (enter_rel ha hn) (.cons (.code code) .nil) .nil .none

theorem done_rel {f : FuncId} {c : Cfg} {fr : Frame} {cs : List Frame} {v : Value} {H' : IHeap} (hm : MRel X base W0 μ c fr cs W) (hd : doneF X f c = some (v, H')) :
    cs = [] ∧ fr.fn = f ∧ ∃ v', fr.leaving X.P W (.returned v') ∧ HRel base W0 μ H' W ∧ VRel μ v v' := by
  obtain ⟨hH, hlaid, g, gs, hfr, hcs, hnd⟩ := hm
  unfold doneF at hd
  obtain ⟨⟨fn, t, n, todo, ds, r, kd, rd⟩, cs1, H1⟩ := c
  simp only at hd hfr hcs hH
  split at hd
  · rename_i x1 x2 x3 x4 x5
    cases hcs
    cases hb : Nat.beq fn f
    · simp [hb] at hd
    · simp only [hb, cond_true] at hd
      have hf := Nat.eq_of_beq_eq_true hb
      split at hd
      · rename_i v0 hres
        cases hd
        cases hfr with
        | plain _ _ _ tm _ todo' _ ds' _ _ _ rd' ht hi hdd hr =>
          cases hdd
          obtain ⟨fn', v', h1, h2, h3⟩ := results_sim hH ht hres
          exact ⟨rfl, hf, v', ⟨rfl, rfl, rfl, fn', h1, h2⟩, hH, h3⟩
      · cases hd
  · cases hd

noncomputable def heap0 : List (Nat × List Value) → Nat → IHeap
  | [], n => ⟨.leaf, n⟩
  | (g, cs) :: r, n => (heap0 r n).put g (.cells cs 0 true)
def LaidW (X : Ctx) (base : Env) (W0 : World) : Prop := (X.laid.map Prod.fst).Nodup ∧ ∀ p ∈ X.laid, base.K p.1 ∧ p.2.all flat = true ∧ ∃ a t fz, W0.heap[p.1]? = some (.cells a t fz) ∧ a.toList = p.2
noncomputable def map0 (l : List (Nat × List Value)) : Inj := fun b => match l.find? (fun p => Nat.beq b p.1) with
  | some p => some ⟨p.1, 0, p.2.length, 0⟩
  | none => none

theorem heap0_next (l : List (Nat × List Value)) (n : Nat) : (heap0 l n).next = n := by
  induction l with
  | nil => rfl
  | cons p l ih => exact ih
theorem heap0_get : ∀ (l : List (Nat × List Value)) (n b : Nat) (o : IObj), (l.map Prod.fst).Nodup → (heap0 l n).get b = some o → ∃ cs, (b, cs) ∈ l ∧ o = .cells cs 0 true := by
  intro l
  induction l with
  | nil => intro n b o _ h; simp [heap0, IHeap.get, Tr.get_leaf] at h
  | cons p l ih =>
    intro n b o hnd h
    obtain ⟨g, cs⟩ := p
    simp only [heap0] at h
    rw [IHeap.get_put] at h
    simp only [List.map_cons, List.nodup_cons] at hnd
    by_cases e : b = g
    · subst e; rw [if_pos rfl] at h; cases h; exact ⟨cs, by simp, rfl⟩
    · rw [if_neg e] at h
      obtain ⟨cs', h1, h2⟩ := ih n b o hnd.2 h
      exact ⟨cs', by simp [h1], h2⟩
theorem map0_eq {l : List (Nat × List Value)} (_hnd : (l.map Prod.fst).Nodup) {b : Nat} {T : Tgt} (h : map0 l b = some T) : ∃ cs, (b, cs) ∈ l ∧ T = ⟨b, 0, cs.length, 0⟩ := by
  unfold map0 at h
  split at h
  · rename_i p hp
    cases h
    have h1 := List.find?_some hp
    have h2 := List.mem_of_find?_eq_some hp
    have e := Nat.eq_of_beq_eq_true h1
    obtain ⟨g, cs⟩ := p
    simp only at e
    subst e
    exact ⟨cs, h2, rfl⟩
  · cases h
theorem mem_unique {l : List (Nat × List Value)} (hnd : (l.map Prod.fst).Nodup) {b : Nat} {x y : List Value} (h1 : (b, x) ∈ l) (h2 : (b, y) ∈ l) : x = y := by
  induction l with
  | nil => cases h1
  | cons p l ih =>
    simp only [List.map_cons, List.nodup_cons] at hnd
    rcases List.mem_cons.1 h1 with e1 | h1' <;> rcases List.mem_cons.1 h2 with e2 | h2'
    · rw [← e1] at e2; cases e2; rfl
    · exact absurd (List.mem_map.2 ⟨_, h2', rfl⟩) (by rw [← e1] at hnd; exact hnd.1)
    · exact absurd (List.mem_map.2 ⟨_, h1', rfl⟩) (by rw [← e2] at hnd; exact hnd.1)
    · exact ih hnd.2 h1' h2'

theorem flats_refl : ∀ (l : List Value), l.all flat = true → LRel μ l l
  | [], _ => .nil
  | a :: l, h => by
    simp only [List.all_cons, Bool.and_eq_true] at h
    exact .cons (flat_refl h.1) (flats_refl l h.2)

theorem start0 (hW : LaidW X base W0) (hmu : base.mu0.le (map0 X.laid)) (hsz : ∀ i, base.K i → i < W0.heap.size) {n : Nat} (hn : ∀ p ∈ X.laid, p.1 < n) : HRel base W0 (map0 X.laid) (heap0 X.laid n) W0 ∧ LaidRel X (map0 X.laid) := by
  obtain ⟨hnd, hall⟩ := hW
  refine ⟨⟨?_, ?_, ?_, ?_, ?_, hsz, fun _ _ => rfl, rfl, rfl, ?_, hmu, Nat.le_refl _⟩, ?_⟩
  · intro b o hb T hT
    obtain ⟨cs, h1, rfl⟩ := heap0_get _ _ _ _ hnd hb
    obtain ⟨cs', h2, rfl⟩ := map0_eq hnd hT
    obtain rfl := mem_unique hnd h1 h2
    obtain ⟨_, hf, a, t, fz, ha, hl⟩ := hall _ h1
    refine ⟨_, ha, .cells _ _ _ true a t fz.1 fz.2 rfl ?_ ?_ (fun e => by cases e)⟩
    · show LRel _ cs (List.take cs.length (List.drop 0 a.toList))
      simp only at hl
      rw [List.drop_zero, hl, List.take_length]
      exact flats_refl cs hf
    · simp only at hl
      rw [← hl]; simp
  · intro b o hb hr T hT
    obtain ⟨cs, h1, rfl⟩ := heap0_get _ _ _ _ hnd hb
    cases hr
  · intro b1 b2 o1 o2 _ _ T1 T2 h1 h2 _ _ hc
    obtain ⟨_, _, rfl⟩ := map0_eq hnd h1
    obtain ⟨_, _, rfl⟩ := map0_eq hnd h2
    exact hc
  · intro b hb
    rw [heap0_next] at hb
    refine ⟨?_, ?_⟩
    · cases hg : (heap0 X.laid n).get b with
      | none => rfl
      | some o =>
        obtain ⟨cs, h1, _⟩ := heap0_get _ _ _ _ hnd hg
        have := hn _ h1
        simp only at this
        omega
    · cases hg : map0 X.laid b with
      | none => rfl
      | some T =>
        obtain ⟨cs, h1, _⟩ := map0_eq hnd hg
        have := hn _ h1
        simp only at this
        omega
  · intro b T hT
    obtain ⟨cs, h1, rfl⟩ := map0_eq hnd hT
    exact hsz _ (hall _ h1).1
  · refine ⟨fun _ _ => False, ?_, ?_⟩
    · intro b a ro T hb
      obtain ⟨cs, h1, e⟩ := heap0_get _ _ _ _ hnd hb
      cases e
    · intro b a ro T hb
      obtain ⟨cs, h1, e⟩ := heap0_get _ _ _ _ hnd hb
      cases e
  · intro g hg
    obtain ⟨p, hp, he⟩ := List.any_eq_true.1 hg
    have e := Nat.eq_of_beq_eq_true he
    cases hm : map0 X.laid g with
    | none =>
      unfold map0 at hm
      split at hm
      · cases hm
      · rename_i hf
        rw [List.find?_eq_none] at hf
        exact absurd he (hf p hp)
    | some T =>
      obtain ⟨cs, h1, rfl⟩ := map0_eq hnd hm
      exact ⟨_, rfl, rfl, rfl⟩

def Env.at (base : Env) (W : World) : Env := { base with K := fun i => i < W.heap.size, mu0 := fun _ => none }
theorem none_le (μ : Inj) : Inj.le (fun _ => none) μ := fun _ _ h => by cases h

theorem HRel.carry {W' : World} (h : HRel base W0 μ H W) (hs : W.heap.size ≤ W'.heap.size) (hold : ∀ i, i < W.heap.size → W'.heap[i]? = W.heap[i]?) (ho : W'.output = W.output) (hos : W'.os = W.os) : HRel base W0 μ H W' :=
  ⟨fun b o hb T hT => let ⟨o', h1, h2⟩ := h.obj b o hb T hT; ⟨o', by rw [hold _ (h.bound b T hT)]; exact h1, h2⟩, h.own, h.inj, h.fresh, fun b T hT => Nat.lt_of_lt_of_le (h.bound b T hT) hs, fun i hi => Nat.lt_of_lt_of_le (h.size i hi) hs,
    fun i hi => by rw [hold i (h.size i hi)]; exact h.below i hi, by rw [ho]; exact h.out, by rw [hos]; exact h.os,
    let ⟨φ, q⟩ := h.abs; ⟨φ, fun b a ro T h1 h2 => let ⟨r1, r2⟩ := q.rep b a ro T h1 h2; ⟨RepG.loc _ _ _ _ _ hs r1 (fun i hi => hold i ((RepG.bnd _ _ _ _ r1).2 i hi)), r2⟩, q.far⟩, h.le, Nat.le_trans h.grow hs⟩

theorem LaidW.carry (hW : LaidW X base W0) (h : HRel base W0 μ H W) : LaidW X (base.at W) W := by
  refine ⟨hW.1, fun p hp => ?_⟩
  obtain ⟨h1, h2, a, t, fz, h3, h4⟩ := hW.2 p hp
  exact ⟨h.size _ h1, h2, a, t, fz, by rw [h.below _ h1]; exact h3, h4⟩

theorem size_of_kept {b0 : Env} {W W' : World} {μ' : Inj} {H' : IHeap} (h : HRel (b0.at W) W μ' H' W') : W.heap.size ≤ W'.heap.size := h.grow

end
end Go.Ideal

namespace Go.Ideal

theorem chks_wf {P : Program} {ops : Array Oper} {done : List Nat} {x : Oper} : PlanWf ops (chksOf P ops.toList done x) := by
  intro e he
  unfold chksOf at he
  obtain ⟨j, _, hj⟩ := List.mem_filterMap.1 he
  split at hj
  · rename_i o ho
    cases hb : (Nat.beq (clsOf P o) 0 && !((ancOf ops.toList x).any (Nat.beq j)))
    · rw [hb] at hj; cases hj
    · rw [hb] at hj; cases hj
      show ops[j]? = some o
      rw [← Array.getElem?_toList]; exact ho
  · cases hj

theorem planGo_wf {P : Program} {ops : Array Oper} : ∀ (f : Nat) (done : List Nat) (p : List PE), planGo P ops.toList f done = some p → PlanWf ops p := by
  have key : ∀ {q : Oper × Nat → Bool} {o : Oper} {i : Nat}, ops.toList.zipIdx.find? q = some (o, i) → ops[i]? = some o := by
    intro q o i h
    have := List.mem_of_find?_eq_some h
    have := List.mem_zipIdx_iff_getElem?.1 this
    rw [← Array.getElem?_toList]
    exact this
  intro f
  induction f with
  | zero =>
    intro done p h
    unfold planGo at h
    cases hb : Nat.beq done.length ops.toList.length
    · rw [hb] at h; cases h
    · rw [hb] at h; cases h; intro e he; cases he
  | succ f ih =>
    intro done p h
    unfold planGo at h
    split at h
    · rename_i o i hf
      rw [Option.map_eq_some_iff] at h
      obtain ⟨r, hr, rfl⟩ := h
      intro e he
      rcases List.mem_cons.1 he with rfl | he
      · exact key hf
      · exact ih _ _ hr e he
    · split at h
      · rename_i o i hf
        rw [Option.map_eq_some_iff] at h
        obtain ⟨r, hr, rfl⟩ := h
        intro e he
        rcases List.mem_cons.1 he with rfl | he
        · exact key hf
        · rcases List.mem_append.1 he with he | he
          · exact chks_wf e he
          · exact ih _ _ hr e he
      · cases h

theorem planOk_of {X : Ctx} (hm : X.P.follows .mixedOrders = true) (hp : X.plan = planOf X.P) : PlanOk X := by
  refine ⟨hm, fun ops p h => ?_⟩
  rw [hp] at h
  unfold planOf at h
  split at h
  · rename_i p' hg
    cases hb : (okStat X.P ops && okPlan X.P ops [] p')
    · rw [hb] at h; cases h
    · rw [hb] at h; cases h
      rw [Bool.and_eq_true] at hb
      exact ⟨hb.1, planGo_wf _ _ _ hg, hb.2⟩
  · cases h

end Go.Ideal

namespace Go.Ideal

noncomputable def keepT (m : Tr IObj) : List Nat → Tr IObj
  | [] => .leaf
  | i :: r => (keepT m r).put i (m.get i)
def plainHead : List IItem → Bool
  | .dreg _ _ :: _ => false
  | _ => true
def blockOf : Value → Option Nat
  | .pointer (some ⟨b, _, _⟩) => some b
  | .slice (some ⟨b, _, _⟩) _ _ => some b
  | _ => none
noncomputable def keptGhosts (P : Program) (ids : List Nat) (f : IFrame) : Bool :=
  match f.todo with
  | .dreg ops _ :: _ => ops.toList.all fun o => !(Nat.beq (clsOf P o) 1) || (match o.dst with
    | some d => match blockOf (look f.tmps d) with
      | some b => ids.any (Nat.beq b)
      | none => true
    | none => true)
  | _ => true
noncomputable def okShrink (P : Program) (ids : List Nat) (c : Cfg) : Bool := plainHead c.fr.todo && c.cs.all fun f => keptGhosts P ids f
noncomputable def shrink (P : Program) (ids : List Nat) (c : Cfg) : Option Cfg :=
  match c with
  | ⟨fr, cs, H⟩ => bif okShrink P ids ⟨fr, cs, H⟩ then some ⟨fr, cs, ⟨keepT H.m ids, H.next⟩⟩ else none
noncomputable def runG (X : Ctx) (n : Nat) (ids : List Nat) (c : Cfg) : Option Cfg :=
  match runI X n c with
  | some c' => shrink X.P ids c'
  | none => none

noncomputable def forgetT : List Nat → Tr Value → Tr Value
  | [], t => t
  | i :: r, t => (forgetT r t).put i (some junk)
noncomputable def forget (l : List Nat) (c : Cfg) : Option Cfg :=
  match c with
  | ⟨⟨fn, t, n, todo, ds, r, kd, rd⟩, cs, H⟩ => bif plainHead todo then some ⟨⟨fn, forgetT l t, n, todo, ds, r, kd, rd⟩, cs, H⟩ else none
inductive Goes (X : Ctx) : Cfg → Cfg → Prop where
  | run {c c' : Cfg} (n : Nat) (h : runI X n c = some c') : Goes X c c'
  | shrink {c c' : Cfg} (ids : List Nat) (h : Go.Ideal.shrink X.P ids c = some c') : Goes X c c'
  | forget {c c' : Cfg} (l : List Nat) (h : Go.Ideal.forget l c = some c') : Goes X c c'
  | trans {c c1 c2 : Cfg} (h : Goes X c c1) (h' : Goes X c1 c2) : Goes X c c2
theorem Goes.runG {X : Ctx} {c c' : Cfg} {n : Nat} {ids : List Nat} (h : runG X n ids c = some c') : Goes X c c' := by
  unfold Ideal.runG at h
  split at h
  · rename_i c1 h1
    exact .trans (.run n h1) (.shrink ids h)
  · cases h
theorem keepT_get (m : Tr IObj) : ∀ (ids : List Nat) (b : Nat) (o : IObj), (keepT m ids).get b = some o → m.get b = some o := by
  intro ids
  induction ids with
  | nil => intro b o h; simp [keepT, Tr.get_leaf] at h
  | cons i r ih =>
    intro b o h
    simp only [keepT] at h
    rw [Tr.get_put] at h
    by_cases e : b = i
    · subst e; rw [if_pos rfl] at h; exact h
    · rw [if_neg e] at h; exact ih b o h

section
variable {X : Ctx} {base : Env} {W0 : World} {μ : Inj} {H : IHeap} {W : World}

theorem HRel.sub {H' : IHeap} (h : HRel base W0 μ H W) (hs : ∀ b o, H'.get b = some o → H.get b = some o) (hn : H'.next = H.next) : HRel base W0 μ H' W :=
  ⟨fun b o hb => h.obj b o (hs b o hb), fun b o hb => h.own b o (hs b o hb), fun b1 b2 o1 o2 h1 h2 => h.inj b1 b2 o1 o2 (hs _ _ h1) (hs _ _ h2),
    fun b hb => (by
      have hb' : H.next ≤ b := by rw [← hn]; exact hb
      refine ⟨?_, (h.fresh b hb').2⟩
      cases hg : H'.get b with
      | none => rfl
      | some o =>
        have := (h.fresh b hb').1
        rw [hs _ _ hg] at this
        cases this),
    h.bound, h.size, h.below, h.out, h.os,
    let ⟨φ, q⟩ := h.abs; ⟨φ, fun b' a ro T' h1 h2 => q.rep b' a ro T' (hs _ _ h1) h2, fun b' a ro T' h1 h2 b2 o2 T2 h3 h4 h5 => q.far b' a ro T' (hs _ _ h1) h2 b2 o2 T2 (hs _ _ h3) h4 h5⟩, h.le, h.grow⟩

theorem keepT_in (m : Tr IObj) : ∀ (ids : List Nat) (b : Nat), b ∈ ids → (keepT m ids).get b = m.get b := by
  intro ids
  induction ids with
  | nil => intro b h; cases h
  | cons i r ih =>
    intro b h
    simp only [keepT, Tr.get_put]
    by_cases e : b = i
    · rw [if_pos e, e]
    · rw [if_neg e]
      rcases List.mem_cons.1 h with h | h
      · exact absurd h e
      · exact ih b h
theorem cls1_block {P : Program} {ρ : Operand → Value} {o : Oper} {H H' : IHeap} {v : Value} (hc : clsOf P o = 1) (hi : iop P ρ o H = some (v, H')) : blockOf v = some H.next := by
  have hv := vop_one (ρ := ρ) hc H
  unfold iop at hi
  rw [hv] at hi
  simp only at hi
  cases ho : o.op <;> simp only [clsOf, ho] at hc <;> try (first | (cases hc; done) | (split at hc <;> cases hc; done))
  all_goals simp only [iop0, ho] at hi
  · split at hi
    · cases hi; rfl
    · cases hi
  · rename_i t x
    cases hn : notChan (ρ x)
    · simp [hn] at hi
    · simp only [hn, cond_true, Option.some.injEq, Prod.mk.injEq] at hi
      obtain ⟨rfl, _⟩ := hi
      rfl
  · rename_i t len parts
    cases hn : (Nat.blt len capU && parts.toList.all (fun p => notChan (ρ p.2)))
    · simp only [hn, cond_false] at hi; cases hi
    · simp only [hn, cond_true, ibuildSlice] at hi
      cases hu : P.underlying t with
      | none => simp [hu] at hi
      | some d =>
        cases d <;> simp only [hu] at hi <;> try (cases hi; done)
        rename_i e
        cases hs : sizeT P e with
        | none => simp [hs] at hi
        | some n =>
          cases hz : zeroL P e with
          | none => simp [hs, hz] at hi
          | some z =>
            simp only [hs, hz] at hi
            cases hq : Nat.beq (len * n) 0
            · simp only [hq, cond_false] at hi
              cases hb : Nat.ble (len * n) 16777216
              · simp only [hb, cond_false] at hi; cases hi
              · simp only [hb, cond_true, Option.map_eq_some_iff] at hi
                obtain ⟨l, _, he⟩ := hi
                cases he; rfl
            · simp only [hq, cond_true] at hi
              split at hi
              · cases hi; rfl
              · cases hi
  · simp only [imakeSlice] at hi
    split at hi
    · split at hi
      · rename_i i z _ _
        rename_i l c _ _
        revert hi
        generalize (Nat.ble _ _ && Nat.ble _ _ && Nat.blt _ _) = q
        cases q
        · intro hi; cases hi
        · intro hi; cases hi; rfl
      · cases hi
    · cases hi
theorem FRel.kept {ids : List Nat} {g : List Nat} {f : IFrame} {f' : Frame} (h : FRel X μ H g f f') (hg : keptGhosts X.P ids f = true) : FRel X μ ⟨keepT H.m ids, H.next⟩ g f f' := by
  cases h with
  | plain fn t n tm todo todo' ds ds' r kd rd rd' ht hi hd hr => exact .plain fn t n tm todo todo' ds ds' r kd rd rd' ht hi hd hr
  | susp fn t n tm ops x o rest idx D G k k' ds ds' kd rd rd' ho hD hkk hd hr =>
    simp only [keptGhosts, List.all_eq_true] at hg
    refine .susp fn t n tm ops x o rest idx D G k k' ds ds' kd rd rd' ho ⟨hD.stat, hD.wf, hD.okp, hD.topo, hD.clo, hD.dcl, hD.sz, hD.tmp, ?_, hD.dlt, hD.gnd, hD.glt⟩ hkk hd hr
    intro i o' ho' h1 h2
    obtain ⟨d, e1, e0, e2⟩ := hD.pen i o' ho' h1 h2
    refine ⟨d, e1, e0, ?_⟩
    rcases e2 with e2 | e2 | ⟨e2, e3, b, hb, obj, mk, a1, a2, a3, a4, a5⟩
    · exact .inl e2
    · exact .inr (.inl e2)
    · refine .inr (.inr ⟨e2, e3, b, hb, obj, mk, a1, a2, a3, a4, ?_⟩)
      have hm : o' ∈ ops.toList := by
        rw [← Array.getElem?_toList] at ho'
        exact List.mem_of_getElem? ho'
      have hk := hg o' hm
      have hbl : blockOf (look t d) = some b := by
        rw [a1]
        exact cls1_block e3 (a2 ⟨.leaf, b⟩)
      simp only [e3, e1, hbl, Nat.beq_refl, Bool.not_true, Bool.false_or, List.any_eq_true] at hk
      obtain ⟨b', hb', hbb⟩ := hk
      have hbe := Nat.eq_of_beq_eq_true hbb
      subst hbe
      show (keepT H.m ids).get b = some obj
      rw [keepT_in _ _ _ hb']
      exact a5
theorem FsRel.kept {ids : List Nat} {gs : List Nat} {l : List IFrame} {l' : List Frame} (h : FsRel X μ H gs l l') (hg : l.all (fun f => keptGhosts X.P ids f) = true) : FsRel X μ ⟨keepT H.m ids, H.next⟩ gs l l' := by
  induction h with
  | nil => exact .nil
  | cons h _ ih =>
    simp only [List.all_cons, Bool.and_eq_true] at hg
    exact .cons (h.kept hg.1) (ih hg.2)

theorem shrink_sim {ids : List Nat} {c c' : Cfg} {fr : Frame} {cs : List Frame} (h : shrink X.P ids c = some c') (hm : MRel X base W0 μ c fr cs W) : MRel X base W0 μ c' fr cs W := by
  obtain ⟨f, l, H⟩ := c
  unfold shrink at h
  cases hb : okShrink X.P ids ⟨f, l, H⟩
  · simp only [hb, cond_false] at h; cases h
  · simp only [hb, cond_true] at h; cases h
    simp only [okShrink, Bool.and_eq_true] at hb
    obtain ⟨h1, h2, g, gs, h3, h4, h5⟩ := hm
    refine ⟨h1.sub (fun b o => keepT_get H.m ids b o) rfl, h2, g, gs, ?_, h4.kept hb.2, h5⟩
    simp only at h3 hb
    cases h3 with
    | plain fn t n tm todo todo' ds ds' r kd rd rd' ht hi hd hr => exact .plain fn t n tm todo todo' ds ds' r kd rd rd' ht hi hd hr
    | drawn fn t n tm ops plan idx D G k k' ds ds' kd rd rd' hD hk hd hr => have := hb.1; cases this

theorem forgetT_rel {n : Nat} {tm : Array Value} : ∀ (l : List Nat) {t : Tr Value}, TRel μ t n tm → TRel μ (forgetT l t) n tm := by
  intro l
  induction l with
  | nil => intro t h; exact h
  | cons i r ih =>
    intro t h
    have h1 := ih h
    refine ⟨h1.1, fun u => ?_⟩
    simp only [forgetT]
    by_cases e : u = i
    · subst e; rw [look_put_same]; exact .junk _
    · rw [look_put_ne _ _ e]; exact h1.2 u
theorem forget_sim {l : List Nat} {c c' : Cfg} {fr : Frame} {cs : List Frame} (h : forget l c = some c') (hm : MRel X base W0 μ c fr cs W) : MRel X base W0 μ c' fr cs W := by
  obtain ⟨⟨fn, t, n, todo, ds, r, kd, rd⟩, l1, H⟩ := c
  unfold forget at h
  simp only at h
  cases hb : plainHead todo
  · simp only [hb, cond_false] at h; cases h
  · simp only [hb, cond_true] at h; cases h
    obtain ⟨h1, h2, g, gs, h3, h4, h5⟩ := hm
    refine ⟨h1, h2, g, gs, ?_, h4, h5⟩
    simp only at h3
    cases h3 with
    | plain _ _ _ tm _ todo' _ ds' _ _ _ rd' ht hi hd hr => exact .plain fn _ n tm todo todo' ds ds' r kd rd rd' (forgetT_rel l ht) hi hd hr
    | drawn _ _ _ tm ops plan idx D G k k' _ ds' _ _ rd' hD hk hd hr => cases hb

theorem goes_sim (hok : IntrOk X base W0) (hplan : PlanOk X) {cs0 : List Frame} {c c' : Cfg} (hg : Goes X c c') : ∀ (μ : Inj) (fr : Frame) (cs : List Frame) (W : World), MRel X base W0 μ c fr cs W →
    ∃ μ' fr1 cs1 W1, Steps X.P (lone fr (cs ++ cs0) W) (lone fr1 (cs1 ++ cs0) W1) ∧ MRel X base W0 μ' c' fr1 cs1 W1 := by
  induction hg with
  | run n h => intro μ fr cs W hm; exact run_sim hok hplan n _ _ μ fr cs W h hm
  | shrink ids h => intro μ fr cs W hm; exact ⟨μ, fr, cs, W, .refl _ _, shrink_sim h hm⟩
  | forget l h => intro μ fr cs W hm; exact ⟨μ, fr, cs, W, .refl _ _, forget_sim h hm⟩
  | trans _ _ ih1 ih2 =>
    intro μ fr cs W hm
    obtain ⟨μ1, fr1, cs1, W1, s1, m1⟩ := ih1 μ fr cs W hm
    obtain ⟨μ2, fr2, cs2, W2, s2, m2⟩ := ih2 μ1 fr1 cs1 W1 m1
    exact ⟨μ2, fr2, cs2, W2, s1.trans s2, m2⟩

theorem calls_goes (hok : IntrOk X base W0) (hplan : PlanOk X) (hH : HRel base W0 μ H W) (hlaid : LaidRel X μ) {f : FuncId} {n : Nat} {code : Code} (he : entry X.P f = some (n, code)) {args : List Value} {args' : Array Value} (ha : LRel μ args args'.toList) (hn : args.length ≤ n)
    {c' : Cfg} {v : Value} {H' : IHeap} (hrun : Goes X (startC f (fillTmps 0 args .leaf) n code H) c') (hd : doneF X f c' = some (v, H')) :
    Calls X.P f args' W fun e W' => ∃ v' μ', e = .returned v' ∧ HRel base W0 μ' H' W' ∧ VRel μ' v v' := by
  intro cs
  obtain ⟨μ', fr, cs1, W1, hs, hm⟩ := goes_sim (cs0 := cs) hok hplan hrun μ _ [] W (start_rel hH hlaid he ha hn)
  obtain ⟨rfl, hf, v', h1, h2, h3⟩ := done_rel hm hd
  have hs' : Steps X.P (lone (Frame.enter X.P f args' .normal) cs W) (lone fr cs W1) := by simpa using hs
  exact ⟨.returned v', W1, fr, ⟨v', μ', rfl, h2, h3⟩, hs', hf, h1⟩

theorem pure_goes (Y : Ctx) (hP : Y.P = X.P) (hL : Y.laid = X.laid) (hW : LaidW X base W0) (hok : ∀ base W0, LaidW Y base W0 → IntrOk Y base W0) (hplan : PlanOk Y) {f : FuncId} {n N : Nat} {code : Code} (he : entry Y.P f = some (n, code)) {args : List Value} (hfl : args.all flat = true)
    (hn : args.length ≤ n) (hN : ∀ p ∈ Y.laid, p.1 < N) {c' : Cfg} {v : Value} {H1 : IHeap} (hrun : Goes Y (startC f (fillTmps 0 args .leaf) n code (heap0 Y.laid N)) c') (hd : doneF Y f c' = some (v, H1)) (hv : flat v = true)
    (hH : HRel base W0 μ H W) {args' : Array Value} (ha : LRel μ args args'.toList) : Calls X.P f args' W fun e W' => ∃ v' μ', e = .returned v' ∧ HRel base W0 μ' H W' ∧ VRel μ' v v' ∧ Evolve μ H μ' H := by
  have hW1 : LaidW Y (base.at W) W := by
    have := hW.carry hH
    unfold LaidW at this ⊢
    rw [hL]; exact this
  obtain ⟨s1, s2⟩ := start0 (X := Y) hW1 (none_le _) (fun _ hi => hi) hN
  have hargs : args'.toList = args := flats_eq args _ hfl ha
  have hc := calls_goes (args' := args') (hok _ _ hW1) hplan s1 s2 he (by rw [hargs]; exact flats_refl args hfl) hn hrun hd
  rw [hP] at hc
  refine hc.mono fun e W' ⟨v', μ', h1, h2, h3⟩ => ⟨v', μ, h1, hH.carry (size_of_kept h2) h2.below h2.out h2.os, ?_, Evolve.refl _ _⟩
  rw [flat_eq hv h3]; exact flat_refl hv
end

structure Known where
  f : FuncId
  args : List Value
  v : Value
noncomputable def knownF (k : Known) : IFun := fun args H => bif sameL (sameN 8) args k.args then some (k.v, H) else none
def KnownOk (P : Program) (laid : List (Nat × List Value)) (k : Known) : Prop :=
  (∃ n c, entry P k.f = some (n, c)) ∧ ∀ base W0 μ H W (args' : Array Value), LaidW ⟨P, laid, fun _ => none, planOf P⟩ base W0 → HRel base W0 μ H W → LRel μ k.args args'.toList →
    Calls P k.f args' W fun e W' => ∃ v' μ', e = .returned v' ∧ HRel base W0 μ' H W' ∧ VRel μ' k.v v' ∧ Evolve μ H μ' H

noncomputable def mkT : List (Nat × Value) → Tr Value
  | [] => .leaf
  | (i, v) :: r => (mkT r).put i (some v)
noncomputable def mkH : List (Nat × IObj) → Tr IObj
  | [] => .leaf
  | (i, v) :: r => (mkH r).put i (some v)
def subC : Code → List Nat → Code
  | c, [] => c
  | .seq a b, i :: r => bif Nat.beq i 0 then subC a r else subC b r
  | .cond _ a b, i :: r => bif Nat.beq i 0 then subC a r else subC b r
  | .block _ b, _ :: r => subC b r
  | .loop b, _ :: r => subC b r
  | .scope b, _ :: r => subC b r
  | .rangeFunc _ _ a b, i :: r => bif Nat.beq i 0 then subC a r else subC b r
  | c, _ :: _ => c
def pcOf (P : Program) (f : FuncId) (l : List Nat) : Code := match entry P f with
  | some (_, c) => subC c l
  | none => .skip
def opsOf : Code → Array Oper
  | .region _ ops _ => ops
  | _ => #[]
def regOf (c : Code) (k : Nat) : IItem := .reg (opsOf c) ((opsOf c).toList.drop k)
def dregOf (P : Program) (c : Code) (k : Nat) : IItem := .dreg (opsOf c) (match planOf P (opsOf c) with
  | some p => p.drop k
  | none => [])
def bsS (l : List Nat) : ByteArray := ⟨⟨l.map UInt8.ofNat⟩⟩
def pt (b o : Nat) : Value := .pointer (some ⟨b, o, none⟩)
def sl (b o l c : Nat) : Value := .slice (some ⟨b, o, none⟩) l c
theorem all_lt {laid : List (Nat × List Value)} {N : Nat} (h : laid.all (fun p => Nat.blt p.1 N) = true) : ∀ p ∈ laid, p.1 < N := fun p hp => Nat.le_of_ble_eq_true (List.all_eq_true.1 h p hp)
theorem entry_pc {P : Program} {f : FuncId} {n : Nat} {c : Code} (h : entry P f = some (n, c)) : entry P f = some (n, pcOf P f []) := by
  have hc : subC c [] = c := by cases c <;> rfl
  unfold pcOf; rw [h]; show _ = some (n, subC c []); rw [hc]
noncomputable def startOk (P : Program) (laid : List (Nat × List Value)) (k : Known) (n N : Nat) : Bool :=
  P.follows .mixedOrders && k.args.all flat && Nat.ble k.args.length n && laid.all (fun p => Nat.blt p.1 N) && flat k.v && (match entry P k.f with
    | some (m, _) => Nat.beq m n
    | none => false)
end Go.Ideal

namespace Go.Ideal
section
variable {X : Ctx} {base : Env} {W0 : World} {μ : Inj} {H : IHeap} {W : World}

def Sim (X : Ctx) (c c' : Cfg) : Prop := ∀ (base : Env) (W0 : World), IntrOk X base W0 → PlanOk X → ∀ (cs0 : List Frame) (μ : Inj) (fr : Frame) (cs : List Frame) (W : World), MRel X base W0 μ c fr cs W → StepSim X base W0 cs0 c' (lone fr (cs ++ cs0) W)
theorem Sim.refl (X : Ctx) (c : Cfg) : Sim X c c := fun _ _ _ _ _ μ fr cs W hm => ⟨μ, fr, cs, W, .refl _ _, hm⟩
theorem Sim.trans {c c1 c2 : Cfg} (h : Sim X c c1) (h' : Sim X c1 c2) : Sim X c c2 := by
  intro base W0 hok hplan cs0 μ fr cs W hm
  obtain ⟨μ1, fr1, cs1, W1, s1, m1⟩ := h base W0 hok hplan cs0 μ fr cs W hm
  obtain ⟨μ2, fr2, cs2, W2, s2, m2⟩ := h' base W0 hok hplan cs0 μ1 fr1 cs1 W1 m1
  exact ⟨μ2, fr2, cs2, W2, s1.trans s2, m2⟩
theorem Sim.step {c c' : Cfg} (h : stepI X c = some c') : Sim X c c' := fun _ _ hok hplan _ _ _ _ _ hm => step_sim hok hplan hm h
theorem Sim.goes {c c' : Cfg} (h : Goes X c c') : Sim X c c' := fun _ _ hok hplan _ μ fr cs W hm => goes_sim hok hplan h μ fr cs W hm

def Reach (X : Ctx) (c : Cfg) (Φ : Cfg → Prop) : Prop := ∀ (base : Env) (W0 : World), IntrOk X base W0 → PlanOk X → ∀ (cs0 : List Frame) (μ : Inj) (fr : Frame) (cs : List Frame) (W : World), MRel X base W0 μ c fr cs W → ∃ c', Φ c' ∧ StepSim X base W0 cs0 c' (lone fr (cs ++ cs0) W)
theorem Reach.here {c : Cfg} {Φ : Cfg → Prop} (h : Φ c) : Reach X c Φ := fun _ _ hok hplan cs0 μ fr cs W hm => ⟨c, h, Sim.refl X c _ _ hok hplan cs0 μ fr cs W hm⟩
theorem Sim.reach {c c' : Cfg} {Φ : Cfg → Prop} (h : Sim X c c') (hΦ : Φ c') : Reach X c Φ := fun _ _ hok hplan cs0 μ fr cs W hm => ⟨c', hΦ, h _ _ hok hplan cs0 μ fr cs W hm⟩
theorem Reach.bind {c : Cfg} {Φ Ψ : Cfg → Prop} (h : Reach X c Φ) (h' : ∀ c', Φ c' → Reach X c' Ψ) : Reach X c Ψ := by
  intro base W0 hok hplan cs0 μ fr cs W hm
  obtain ⟨c1, p1, μ1, fr1, cs1, W1, s1, m1⟩ := h base W0 hok hplan cs0 μ fr cs W hm
  obtain ⟨c2, p2, μ2, fr2, cs2, W2, s2, m2⟩ := h' c1 p1 base W0 hok hplan cs0 μ1 fr1 cs1 W1 m1
  exact ⟨c2, p2, μ2, fr2, cs2, W2, s1.trans s2, m2⟩
theorem Reach.mono {c : Cfg} {Φ Ψ : Cfg → Prop} (h : Reach X c Φ) (hi : ∀ c', Φ c' → Ψ c') : Reach X c Ψ := h.bind fun c' hc => .here (hi c' hc)
theorem Sim.then {c c' : Cfg} {Φ : Cfg → Prop} (h : Sim X c c') (h' : Reach X c' Φ) : Reach X c Φ := Reach.bind (Φ := fun d => d = c') (h.reach rfl) fun _ e => e ▸ h'

theorem Sim.chk {fn : FuncId} {t : Tr Value} {n : Nat} {ops : Array Oper} {j : Nat} {o : Oper} {rest : List PE} {k : List IItem} {ds : List Deferred} {kd : CallKind} {rd : Option Nat} {cs : List IFrame} {H : IHeap}
    (hf : wantedI ops o t = some true → ∃ d H1, o.dst = some d ∧ iop X.P (ieval X t) o H = some (look t d, H1)) :
    Sim X ⟨⟨fn, t, n, .dreg ops (.chk j o :: rest) :: k, ds, false, kd, rd⟩, cs, H⟩ ⟨⟨fn, t, n, .dreg ops rest :: k, ds, false, kd, rd⟩, cs, H⟩ := by
  intro base W0 hok hplan cs0 μ fr cs' W hm
  obtain ⟨hH, hlaid, g, gs, hfr, hcs, hnd⟩ := hm
  simp only at hH hfr hcs
  cases hfr with
  | plain fn t n tm todo todo' ds ds' r kd rd rd' ht hi hd hrd => cases hi; rename_i h1 _; cases h1
  | drawn fn t n tm ops plan idx D G k k' ds ds' kd rd rd' hD hk hd hr =>
    have hoj : ops[j]? = some o := hD.wf (.chk j o) (by simp)
    have hokp := hD.okp
    unfold okPlan at hokp
    simp only [Bool.and_eq_true] at hokp
    have hwf : PlanWf ops rest := fun e he => hD.wf e (by simp [he])
    refine ⟨μ, _, cs', W, .refl _ _, hH, hlaid, G.map Prod.snd, gs, .drawn fn t n tm ops rest idx D G k k' ds ds' kd rd rd' ⟨hD.stat, hwf, hokp.2, hD.topo, hD.clo, hD.dcl, hD.sz, hD.tmp, fun i oi hi hiD hii => ?_, hD.dlt, hD.gnd, hD.glt⟩ hk hd hr, hcs, hnd⟩
    refine (hD.pen i oi hi hiD hii).congr (fun _ _ => rfl) (fun _ _ => rfl) fun d hdd hw hc0 hf2 => ?_
    rcases hf2 with hf2 | hf2
    · simp only [lead, List.mem_cons] at hf2
      rcases hf2 with rfl | hf2
      · rw [hoj] at hi; cases hi
        obtain ⟨d2, H1, e1, e2⟩ := hf hw
        rw [hdd] at e1; cases e1
        exact .inr ⟨H1, e2⟩
      · exact .inl hf2
    · exact .inr hf2
end

noncomputable def setPK {α : Type} (x : Option α) (p : Pth) : Tr α → (Tr α → Prop) → Prop :=
  Pth.rec (motive := fun _ => Tr α → (Tr α → Prop) → Prop)
    (fun t k => Tr.casesOn (motive := fun _ => Prop) t (k (.node .leaf x .leaf)) (fun l _ r => k (.node l x r)))
    (fun _ ih t k => Tr.casesOn (motive := fun _ => Prop) t (ih .leaf fun l => k (.node l none .leaf)) (fun l v r => ih l fun l => k (.node l v r)))
    (fun _ ih t k => Tr.casesOn (motive := fun _ => Prop) t (ih .leaf fun r => k (.node .leaf none r)) (fun l v r => ih r fun r => k (.node l v r)))
    p
theorem setPK_eq {α : Type} (x : Option α) (p : Pth) : ∀ (t : Tr α) (k : Tr α → Prop), setPK x p t k = k (t.setP x p) := by
  induction p with
  | e => intro t k; cases t <;> rfl
  | z p ih => intro t k; cases t <;> exact ih _ _
  | o p ih => intro t k; cases t <;> exact ih _ _
noncomputable def putK {α : Type} (t : Tr α) (n : Nat) (x : Option α) (k : Tr α → Prop) : Prop := setPK x (Pth.of n) t k
theorem putK_eq {α : Type} (t : Tr α) (n : Nat) (x : Option α) (k : Tr α → Prop) : putK t n x k = k (t.put n x) := setPK_eq _ _ _ _
noncomputable def fillK : Nat → List Value → Tr Value → (Tr Value → Prop) → Prop
  | _, [], t, k => k t
  | i, v :: r, t, k => putK t i (some v) fun t => fillK (i + 1) r t k
theorem fillK_eq : ∀ (l : List Value) (i : Nat) (t : Tr Value) (k : Tr Value → Prop), fillK i l t k = k (fillTmps i l t)
  | [], _, _, _ => rfl
  | v :: r, i, t, k => by simp only [fillK, fillTmps, putK_eq, fillK_eq r]

noncomputable def finishN (f : IFrame) (v : Value) : Option IFrame :=
  match f with
  | ⟨fn, t, n, todo, ds, r, kd, rd⟩ =>
    match todo with
    | .reg ops (o :: rest) :: k =>
      match o.dst with
      | some d => bif Nat.blt d n then some ⟨fn, t.put d (some v), n, .reg ops rest :: k, ds, r, kd, rd⟩ else none
      | none => some ⟨fn, t, n, .reg ops rest :: k, ds, r, kd, rd⟩
    | .dreg ops (.op _ o :: rest) :: k =>
      match o.dst with
      | some d => bif Nat.blt d n then some ⟨fn, t.put d (some v), n, .dreg ops rest :: k, ds, r, kd, rd⟩ else none
      | none => some ⟨fn, t, n, .dreg ops rest :: k, ds, r, kd, rd⟩
    | .inRangeFunc l :: k => some ⟨fn, t, n, .endRangeFunc l :: k, ds, r, kd, rd⟩
    | .beginRound :: k => some ⟨fn, t, n, k, ds, r, kd, rd⟩
    | _ => none
theorem finishN_eq (f : IFrame) (v : Value) : finishI f v = finishN f v := by
  unfold finishI
  rw [forceV_eq]
  rfl
noncomputable def finC (f : IFrame) (v : Value) (cs : List IFrame) (H : IHeap) (K : Cfg → Prop) : Prop :=
  match f with
  | ⟨fn, t, n, todo, ds, r, kd, rd⟩ =>
    match todo with
    | .reg ops (o :: rest) :: k =>
      match o.dst with
      | some d => bif Nat.blt d n then putK t d (some v) fun t => K ⟨⟨fn, t, n, .reg ops rest :: k, ds, r, kd, rd⟩, cs, H⟩ else False
      | none => K ⟨⟨fn, t, n, .reg ops rest :: k, ds, r, kd, rd⟩, cs, H⟩
    | .dreg ops (.op _ o :: rest) :: k =>
      match o.dst with
      | some d => bif Nat.blt d n then putK t d (some v) fun t => K ⟨⟨fn, t, n, .dreg ops rest :: k, ds, r, kd, rd⟩, cs, H⟩ else False
      | none => K ⟨⟨fn, t, n, .dreg ops rest :: k, ds, r, kd, rd⟩, cs, H⟩
    | _ => match finishN ⟨fn, t, n, todo, ds, r, kd, rd⟩ v with
      | some f' => K ⟨f', cs, H⟩
      | none => False
noncomputable def finK (f : IFrame) (v : Value) (cs : List IFrame) (H : IHeap) (K : Cfg → Prop) : Prop :=
  match v with
  | .bool b => bif b then finC f (.bool true) cs H K else finC f (.bool false) cs H K
  | v => finC f v cs H K

noncomputable def VT.cps : VT → (Value → IHeap → Prop) → Prop
  | .fail, _ => False
  | .ret v H, K => K v H
  | .test c a b, K => bif c then a.cps K else b.cps K
theorem VT.cps_ok {K : Value → IHeap → Prop} : ∀ {t : VT}, t.cps K → ∃ v H', t.run = some (v, H') ∧ K v H'
  | .fail, h => by cases h
  | .ret v H, h => ⟨v, H, rfl, h⟩
  | .test c a b, h => by
    cases c
    · exact VT.cps_ok (t := b) h
    · exact VT.cps_ok (t := a) h
noncomputable def opK (P : Program) (ρ : Operand → Value) (o : Oper) (H : IHeap) (K : Value → IHeap → Prop) : Prop :=
  match vop P ρ o H with
  | some t => t.cps K
  | none => match iop0 P ρ o H with
    | some (v, H') => K v H'
    | none => False
theorem opK_ok {P : Program} {ρ : Operand → Value} {o : Oper} {H : IHeap} {K : Value → IHeap → Prop} (h : opK P ρ o H K) : ∃ v H', iop P ρ o H = some (v, H') ∧ K v H' := by
  unfold opK at h
  unfold iop
  cases hv : vop P ρ o H with
  | some t => simp only [hv] at h; exact VT.cps_ok h
  | none =>
    simp only [hv] at h
    split at h
    · rename_i v H' e; exact ⟨v, H', e, h⟩
    · cases h

noncomputable def enterK0 (X : Ctx) (f : FuncId) (args : List Value) (kind : CallKind) (fr : IFrame) (cs : List IFrame) (H : IHeap) (K : Cfg → Prop) : Prop :=
  match intrAt X f args kind H with
  | some (v, H') => finK fr v cs H' K
  | none => match entry X.P f with
    | some (n, c) => bif Nat.ble args.length n then fillK 0 args .leaf fun t => K ⟨⟨f, t, n, [.code c], [], false, kind, none⟩, fr :: cs, H⟩ else False
    | none => match enterI X f args kind fr cs H with
      | some c' => K c'
      | none => False
abbrev PFun := List Value → IHeap → (Value → IHeap → Prop) → Prop
abbrev Pf := FuncId → Option PFun
def PfOk (X : Ctx) (pf : Pf) : Prop := ∀ f F, pf f = some F → ∀ args H K, F args H K → ∃ v H', intrAt X f args .normal H = some (v, H') ∧ K v H'
noncomputable def enterK (X : Ctx) (pf : Pf) (f : FuncId) (args : List Value) (kind : CallKind) (fr : IFrame) (cs : List IFrame) (H : IHeap) (K : Cfg → Prop) : Prop :=
  match pf f with
  | some F => match kind with
    | .normal => F args H fun v H' => finK fr v cs H' K
    | kind => enterK0 X f args kind fr cs H K
  | none => enterK0 X f args kind fr cs H K
noncomputable def callK (X : Ctx) (pf : Pf) (f : Value) (args : List Value) (fr : IFrame) (cs : List IFrame) (H : IHeap) (K : Cfg → Prop) : Prop :=
  match f with
  | .func (.func g) first captured => enterK X pf g (first.toList ++ args ++ captured.toList) .normal fr cs H K
  | _ => match callI X f args fr cs H with
    | some c' => K c'
    | none => False
noncomputable def operK (X : Ctx) (pf : Pf) (o : Oper) (fr : IFrame) (cs : List IFrame) (H : IHeap) (K : Cfg → Prop) : Prop :=
  match o.op with
  | .call c => match c.callee with
    | .builtin b => bif isRec b then (match recI fr cs H with
      | some c' => K c'
      | none => False) else opK X.P (ieval X fr.tmps) o H fun v H' => finK fr v cs H' K
    | .value f => callK X pf (ieval X fr.tmps f) (c.args.toList.map (ieval X fr.tmps)) fr cs H K
    | _ => False
  | .defer _ => match operI X o fr cs H with
    | some c' => K c'
    | none => False
  | _ => opK X.P (ieval X fr.tmps) o H fun v H' => finK fr v cs H' K
noncomputable def wantK (ops : Array Oper) (o : Oper) (t : Tr Value) (Kt Kf : Prop) : Prop :=
  match o.guard with
  | none => Kt
  | some (j, want) => match guardVal ops j with
    | some d => match look t d with
      | .bool b => bif want then (bif b then Kt else Kf) else (bif b then Kf else Kt)
      | .tuple _ => Kf
      | _ => False
    | none => Kf
noncomputable def retK (kind : CallKind) (v : Value) (cs : List IFrame) (H : IHeap) (K : Cfg → Prop) : Prop :=
  match cs with
  | [] => False
  | c :: rest => match kind with
    | .normal => finK c v rest H K
    | .deferred => bif c.ret then K ⟨c, rest, H⟩ else False
    | _ => False
noncomputable def forcePl (l : List PE) : (List PE → Prop) → Prop :=
  List.rec (motive := fun _ => (List PE → Prop) → Prop) (fun k => k []) (fun e _ ih k => match e with
    | .op i ⟨d, op, ty, pos, af, g⟩ => Nat.rec (motive := fun _ => Prop) (ih fun r => k (.op 0 ⟨d, op, ty, pos, af, g⟩ :: r)) (fun j _ => ih fun r => k (.op (j + 1) ⟨d, op, ty, pos, af, g⟩ :: r)) i
    | .chk i ⟨d, op, ty, pos, af, g⟩ => Nat.rec (motive := fun _ => Prop) (ih fun r => k (.chk 0 ⟨d, op, ty, pos, af, g⟩ :: r)) (fun j _ => ih fun r => k (.chk (j + 1) ⟨d, op, ty, pos, af, g⟩ :: r)) i) l
theorem forcePl_eq : ∀ (l : List PE) (k : List PE → Prop), forcePl l k = k l
  | [], _ => rfl
  | .op 0 o :: r, k => forcePl_eq r fun r => k (.op 0 o :: r)
  | .op (j + 1) o :: r, k => forcePl_eq r fun r => k (.op (j + 1) o :: r)
  | .chk 0 o :: r, k => forcePl_eq r fun r => k (.chk 0 o :: r)
  | .chk (j + 1) o :: r, k => forcePl_eq r fun r => k (.chk (j + 1) o :: r)
noncomputable def stepK (X : Ctx) (pf : Pf) (c : Cfg) (K : Cfg → Prop) : Prop :=
  match c with
  | ⟨⟨fn, t, n, todo, ds, r, kd, rd⟩, cs, H⟩ =>
    bif r then
      match ds with
      | [] => match resultsI X fn t H with
        | some v => retK kd v cs H K
        | none => False
      | _ :: _ => match stepRet X ⟨fn, t, n, todo, ds, r, kd, rd⟩ cs H with
        | some c' => K c'
        | none => False
    else
    match todo with
    | .reg ops (o :: _) :: _ => wantK ops o t (operK X pf o ⟨fn, t, n, todo, ds, r, kd, rd⟩ cs H K) (finK ⟨fn, t, n, todo, ds, r, kd, rd⟩ Go.undef cs H K)
    | .dreg ops (.op _ o :: _) :: _ => wantK ops o t (operK X pf o ⟨fn, t, n, todo, ds, r, kd, rd⟩ cs H K) (finK ⟨fn, t, n, todo, ds, r, kd, rd⟩ Go.undef cs H K)
    | .dreg ops (.chk _ o :: rest) :: k => wantK ops o t
        (match o.dst with
          | some d => opK X.P (ieval X t) o H fun v _ => v = look t d ∧ K ⟨⟨fn, t, n, .dreg ops rest :: k, ds, r, kd, rd⟩, cs, H⟩
          | none => False)
        (K ⟨⟨fn, t, n, .dreg ops rest :: k, ds, r, kd, rd⟩, cs, H⟩)
    | .code (.cond c a b) :: k => match ieval X t c with
      | .bool x => bif x then K ⟨⟨fn, t, n, .code a :: k, ds, r, kd, rd⟩, cs, H⟩ else K ⟨⟨fn, t, n, .code b :: k, ds, r, kd, rd⟩, cs, H⟩
      | _ => False
    | .code (.region _ ops true) :: k => match X.plan ops with
      | some p => forcePl p fun p => K ⟨⟨fn, t, n, .dreg ops p :: k, ds, r, kd, rd⟩, cs, H⟩
      | none => False
    | .code (.rangeFunc f params assign body) :: k =>
      match rd with
      | some l => match H.get l with
        | some (.loop q) =>
          callK X pf (ieval X t f) [.func (.yield H.next) ⟨[]⟩ ⟨[]⟩] ⟨fn, t, n, .inRangeFunc H.next :: k, ds, r, kd, rd⟩ cs
            (H.alloc (.loop ⟨.ready, none, fn, t, n, params, assign, body, q.defers⟩)) K
        | _ => False
      | none =>
        callK X pf (ieval X t f) [.func (.yield (H.next + 1)) ⟨[]⟩ ⟨[]⟩] ⟨fn, t, n, .inRangeFunc (H.next + 1) :: k, { target := .collected H.next, args := ⟨[]⟩ } :: ds, r, kd, rd⟩ cs
          ((H.alloc (.deferred (some []))).alloc (.loop ⟨.ready, none, fn, t, n, params, assign, body, H.next⟩)) K
    | _ => match stepI X ⟨⟨fn, t, n, todo, ds, r, kd, rd⟩, cs, H⟩ with
      | some c' => K c'
      | none => False

section
variable {X : Ctx}
theorem finC_ok {f : IFrame} {v : Value} {cs : List IFrame} {H : IHeap} {K : Cfg → Prop} (h : finC f v cs H K) : ∃ f', finishI f v = some f' ∧ K ⟨f', cs, H⟩ := by
  rw [finishN_eq]
  obtain ⟨fn, t, n, todo, ds, r, kd, rd⟩ := f
  unfold finC at h
  simp only at h
  split at h
  · rename_i ops o rest k
    split at h
    · rename_i d e
      cases hb : Nat.blt d n
      · simp [hb] at h
      · simp only [hb, cond_true, putK_eq] at h
        exact ⟨_, by simp only [finishN, e, hb, cond_true], h⟩
    · rename_i e; exact ⟨_, by simp only [finishN, e], h⟩
  · rename_i ops i o rest k
    split at h
    · rename_i d e
      cases hb : Nat.blt d n
      · simp [hb] at h
      · simp only [hb, cond_true, putK_eq] at h
        exact ⟨_, by simp only [finishN, e, hb, cond_true], h⟩
    · rename_i e; exact ⟨_, by simp only [finishN, e], h⟩
  · split at h
    · rename_i f' e; exact ⟨f', e, h⟩
    · cases h
theorem finK_ok {f : IFrame} {v : Value} {cs : List IFrame} {H : IHeap} {K : Cfg → Prop} (h : finK f v cs H K) : ∃ f', finishI f v = some f' ∧ K ⟨f', cs, H⟩ := by
  unfold finK at h
  split at h
  · rename_i b
    cases b
    · exact finC_ok h
    · exact finC_ok h
  · exact finC_ok h
theorem enterK0_ok {f : FuncId} {args : List Value} {kind : CallKind} {fr : IFrame} {cs : List IFrame} {H : IHeap} {K : Cfg → Prop} (h : enterK0 X f args kind fr cs H K) : ∃ c', enterI X f args kind fr cs H = some c' ∧ K c' := by
  unfold enterK0 at h
  cases hi : intrAt X f args kind H with
  | some p =>
    obtain ⟨v, H'⟩ := p
    simp only [hi] at h
    obtain ⟨f', e1, e2⟩ := finK_ok h
    exact ⟨_, by unfold enterI; simp only [hi, e1], e2⟩
  | none =>
    simp only [hi] at h
    cases he : entry X.P f with
    | some p =>
      obtain ⟨n, c⟩ := p
      simp only [he] at h
      cases hb : Nat.ble args.length n
      · simp [hb] at h
      · simp only [hb, cond_true, fillK_eq] at h
        exact ⟨_, by unfold enterI; simp only [hi, he, hb, cond_true], h⟩
    | none =>
      simp only [he] at h
      split at h
      · rename_i c' e; exact ⟨c', e, h⟩
      · cases h
theorem enterK_ok {pf : Pf} (hpf : PfOk X pf) {f : FuncId} {args : List Value} {kind : CallKind} {fr : IFrame} {cs : List IFrame} {H : IHeap} {K : Cfg → Prop} (h : enterK X pf f args kind fr cs H K) : ∃ c', enterI X f args kind fr cs H = some c' ∧ K c' := by
  unfold enterK at h
  split at h
  · rename_i F hF
    split at h
    · obtain ⟨v, H', e1, e2⟩ := hpf f F hF _ _ _ h
      obtain ⟨f', e3, e4⟩ := finK_ok e2
      exact ⟨_, by unfold enterI; simp only [e1, e3], e4⟩
    · exact enterK0_ok h
  · exact enterK0_ok h
theorem callK_ok {pf : Pf} (hpf : PfOk X pf) {f : Value} {args : List Value} {fr : IFrame} {cs : List IFrame} {H : IHeap} {K : Cfg → Prop} (h : callK X pf f args fr cs H K) : ∃ c', callI X f args fr cs H = some c' ∧ K c' := by
  unfold callK at h
  split at h
  · obtain ⟨c', e1, e2⟩ := enterK_ok hpf h
    exact ⟨c', by unfold callI; exact e1, e2⟩
  · split at h
    · rename_i c' e; exact ⟨c', e, h⟩
    · cases h
theorem operK_ok {pf : Pf} (hpf : PfOk X pf) {o : Oper} {fr : IFrame} {cs : List IFrame} {H : IHeap} {K : Cfg → Prop} (h : operK X pf o fr cs H K) : ∃ c', operI X o fr cs H = some c' ∧ K c' := by
  have key : opK X.P (ieval X fr.tmps) o H (fun v H' => finK fr v cs H' K) → ∃ v H' f', iop X.P (ieval X fr.tmps) o H = some (v, H') ∧ finishI fr v = some f' ∧ K ⟨f', cs, H'⟩ := by
    intro h
    obtain ⟨v, H', e1, e2⟩ := opK_ok h
    obtain ⟨f', e3, e4⟩ := finK_ok e2
    exact ⟨v, H', f', e1, e3, e4⟩
  unfold operK at h
  unfold operI
  cases ho : o.op
  case call c =>
    simp only [ho] at h ⊢
    cases hc : c.callee with
    | builtin b =>
      simp only [hc] at h ⊢
      cases hb : isRec b
      · simp only [hb, cond_false] at h ⊢
        obtain ⟨v, H', f', e1, e2, e3⟩ := key h
        exact ⟨_, by simp only [e1, e2], e3⟩
      · simp only [hb, cond_true] at h ⊢
        split at h
        · rename_i c' e; exact ⟨c', e, h⟩
        · cases h
    | value f => simp only [hc] at h ⊢; exact callK_ok hpf h
    | invoke r m => simp only [hc] at h
  case defer c =>
    simp only [ho] at h
    split at h
    · rename_i c' e
      refine ⟨c', ?_, h⟩
      unfold operI at e
      simp only [ho] at e ⊢
      exact e
    · cases h
  all_goals
    simp only [ho] at h ⊢
    obtain ⟨v, H', f', e1, e2, e3⟩ := key h
    exact ⟨_, by simp only [e1, e2], e3⟩
theorem wantK_ok {ops : Array Oper} {o : Oper} {t : Tr Value} {Kt Kf : Prop} (h : wantK ops o t Kt Kf) : (wantedI ops o t = some true ∧ Kt) ∨ (wantedI ops o t = some false ∧ Kf) := by
  unfold wantK at h
  unfold wantedI
  split at h
  · rename_i e; exact .inl ⟨by simp only [e], h⟩
  · rename_i j want e
    split at h
    · rename_i d e1
      split at h
      · rename_i b e2
        cases want <;> cases b <;> simp only [cond_true, cond_false] at h <;> simp [e, e1, e2, h]
      · rename_i e2; exact .inr ⟨by simp only [e, e1, e2], h⟩
      · cases h
    · rename_i e1; exact .inr ⟨by simp only [e, e1], h⟩
theorem retK_ok {kind : CallKind} {v : Value} {cs : List IFrame} {H : IHeap} {K : Cfg → Prop} (h : retK kind v cs H K) : ∃ c', returnI kind v cs H = some c' ∧ K c' := by
  unfold retK at h
  unfold returnI
  split at h
  · cases h
  · cases kind <;> simp only at h ⊢
    · obtain ⟨f', e1, e2⟩ := finK_ok h
      exact ⟨_, by simp only [e1], e2⟩
    · rename_i c rest
      cases hr : c.ret
      · simp [hr] at h
      · simp only [hr, cond_true] at h ⊢; exact ⟨_, rfl, h⟩
    all_goals cases h

theorem stepK_sim {pf : Pf} (hpf : PfOk X pf) {c : Cfg} {K : Cfg → Prop} (h : stepK X pf c K) : ∃ c', Sim X c c' ∧ K c' := by
  obtain ⟨⟨fn, t, n, todo, ds, r, kd, rd⟩, cs, H⟩ := c
  have fall : (match stepI X ⟨⟨fn, t, n, todo, ds, r, kd, rd⟩, cs, H⟩ with | some c' => K c' | none => False) → ∃ c', Sim X ⟨⟨fn, t, n, todo, ds, r, kd, rd⟩, cs, H⟩ c' ∧ K c' := by
    intro h
    split at h
    · rename_i c' e; exact ⟨c', .step e, h⟩
    · cases h
  unfold stepK at h
  simp only at h
  cases r with
  | true =>
    simp only [cond_true] at h
    split at h
    · split at h
      · rename_i v e
        obtain ⟨c', e1, e2⟩ := retK_ok h
        refine ⟨c', .step ?_, e2⟩
        unfold stepI stepRet
        simp only [cond_true, e, e1]
      · cases h
    · split at h
      · rename_i c' e
        refine ⟨c', .step ?_, h⟩
        unfold stepI
        simp only [cond_true]; exact e
      · cases h
  | false =>
    simp only [cond_false] at h
    split at h
    · rename_i ops o l k
      rcases wantK_ok h with ⟨hw, h⟩ | ⟨hw, h⟩
      · obtain ⟨c', e1, e2⟩ := operK_ok hpf h
        refine ⟨c', .step ?_, e2⟩
        unfold stepI
        simp only [cond_false, hw]; exact e1
      · obtain ⟨f', e1, e2⟩ := finK_ok h
        refine ⟨_, .step ?_, e2⟩
        unfold stepI
        simp only [cond_false, hw, e1]
    · rename_i ops i o l k
      rcases wantK_ok h with ⟨hw, h⟩ | ⟨hw, h⟩
      · obtain ⟨c', e1, e2⟩ := operK_ok hpf h
        refine ⟨c', .step ?_, e2⟩
        unfold stepI
        simp only [cond_false, hw]; exact e1
      · obtain ⟨f', e1, e2⟩ := finK_ok h
        refine ⟨_, .step ?_, e2⟩
        unfold stepI
        simp only [cond_false, hw, e1]
    · rename_i ops j o rest k
      rcases wantK_ok h with ⟨hw, h⟩ | ⟨hw, h⟩
      · split at h
        · rename_i d hd
          obtain ⟨v, H', e1, e2, e3⟩ := opK_ok h
          exact ⟨_, .chk fun _ => ⟨d, H', hd, by rw [e1, e2]⟩, e3⟩
        · cases h
      · exact ⟨_, .chk fun hw2 => (by rw [hw] at hw2; cases hw2), h⟩
    · rename_i cnd a b k
      split at h
      · rename_i x e
        cases x
        · refine ⟨_, .step ?_, h⟩
          unfold stepI
          simp only [cond_false, e]
        · refine ⟨_, .step ?_, h⟩
          unfold stepI
          simp only [cond_false, cond_true, e]
      · cases h
    · rename_i ops k
      split at h
      · rename_i p e
        rw [forcePl_eq] at h
        refine ⟨_, .step ?_, h⟩
        unfold stepI
        simp only [cond_false, e]
      · cases h
    · rename_i f params assign body k
      split at h
      · rename_i l
        split at h
        · rename_i q e
          obtain ⟨c', e1, e2⟩ := callK_ok hpf h
          refine ⟨c', .step ?_, e2⟩
          unfold stepI
          simp only [cond_false, e]; exact e1
        · cases h
      · obtain ⟨c', e1, e2⟩ := callK_ok hpf h
        refine ⟨c', .step ?_, e2⟩
        unfold stepI
        simp only [cond_false]; exact e1
    · exact fall h

def refsN : Nat → Value → List Nat
  | 0, _ => []
  | n + 1, v => match v with
    | .pointer (some a) => [a.block]
    | .slice (some a) _ _ => [a.block]
    | .map (some b) => [b]
    | .agg cs => cs.toList.flatMap (refsN n)
    | .tuple cs => cs.toList.flatMap (refsN n)
    | .iface _ v => refsN n v
    | .func _ a b => a.toList.flatMap (refsN n) ++ b.toList.flatMap (refsN n)
    | _ => []
noncomputable def VCp (X : Ctx) (pf : Pf) (f : FuncId) (ids : List Nat) (Q : Value → List (Option IObj) → Prop) (n : Nat) : Cfg → Prop :=
  Nat.rec (motive := fun _ => Cfg → Prop) (fun _ => False) (fun _ ih c => match doneF X f c with
    | some (v, H) => Q v ((ids ++ refsN 4 v).map H.get)
    | none => stepK X pf c ih) n
noncomputable def noPf : Pf := fun _ => none
theorem noPf_ok (X : Ctx) : PfOk X noPf := fun _ _ h => by cases h
noncomputable abbrev VC (X : Ctx) (f : FuncId) (ids : List Nat) (Q : Value → List (Option IObj) → Prop) (n : Nat) : Cfg → Prop := VCp X noPf f ids Q n
theorem stepK_ok {pf : Pf} (hpf : PfOk X pf) {c : Cfg} {K : Cfg → Prop} (h : stepK X pf c K) : Reach X c K := let ⟨_, h1, h2⟩ := stepK_sim hpf h; h1.reach h2
def EndsIn (X : Ctx) (f : FuncId) (Q : Value → IHeap → Prop) (c : Cfg) : Prop := Reach X c fun c' => ∃ v H, doneF X f c' = some (v, H) ∧ Q v H
theorem VCp_ok {pf : Pf} (hpf : PfOk X pf) {f : FuncId} {ids : List Nat} {Q : Value → List (Option IObj) → Prop} : ∀ (n : Nat) (c : Cfg), VCp X pf f ids Q n c → EndsIn X f (fun v H => Q v ((ids ++ refsN 4 v).map H.get)) c := by
  intro n
  induction n with
  | zero => intro c h; cases h
  | succ n ih =>
    intro c h
    have h : (match doneF X f c with
      | some (v, H) => Q v ((ids ++ refsN 4 v).map H.get)
      | none => stepK X pf c (VCp X pf f ids Q n)) := h
    split at h
    · rename_i v H e; exact .here ⟨v, H, e, h⟩
    · exact (stepK_ok hpf h).bind fun c' hc => ih c' hc
theorem VC_ok {f : FuncId} {ids : List Nat} {Q : Value → List (Option IObj) → Prop} (n : Nat) (c : Cfg) (h : VC X f ids Q n c) : EndsIn X f (fun v H => Q v ((ids ++ refsN 4 v).map H.get)) c := VCp_ok (noPf_ok X) n c h
end
end Go.Ideal

namespace Go.Ideal

abbrev Ren := Nat → Option Nat
def renL (f : Value → Option Value) : List Value → Option (List Value)
  | [] => some []
  | v :: l => match f v, renL f l with
    | some w, some m => some (w :: m)
    | _, _ => none
def renA (ρ : Ren) : Addr → Option Addr
  | ⟨b, o, s⟩ => match ρ b with
    | some i => some ⟨i, o, s⟩
    | none => none
def renN (ρ : Ren) : Nat → Value → Option Value
  | 0, _ => none
  | n + 1, v => match v with
    | .bool b => some (.bool b)
    | .int k m => some (.int k m)
    | .float k m => some (.float k m)
    | .string s => some (.string s)
    | .pointer none => some (.pointer none)
    | .pointer (some a) => (renA ρ a).map fun a => .pointer (some a)
    | .slice none l c => some (.slice none l c)
    | .slice (some a) l c => (renA ρ a).map fun a => .slice (some a) l c
    | .map none => some (.map none)
    | .map (some b) => (ρ b).map fun b => .map (some b)
    | .nilFunc => some .nilFunc
    | .nilIface => some .nilIface
    | .iface t v => (renN ρ n v).map fun v => .iface t v
    | .agg cs => (renL (renN ρ n) cs.toList).map fun l => .agg ⟨l⟩
    | .tuple cs => (renL (renN ρ n) cs.toList).map fun l => .tuple ⟨l⟩
    | .func (.func f) xs ys => match renL (renN ρ n) xs.toList, renL (renN ρ n) ys.toList with
      | some a, some b => some (.func (.func f) ⟨a⟩ ⟨b⟩)
      | _, _ => none
    | .chan (some 0) => some (.chan (some 0))
    | _ => none
abbrev renV (ρ : Ren) (v : Value) : Option Value := renN ρ 6 v

section
variable {ρ : Ren} {μ ν : Inj}
theorem renL_fwd {f : Value → Option Value} (hf : ∀ v v1 v', f v = some v1 → VRel μ v v' → VRel ν v1 v') : ∀ (l l1 l' : List Value), renL f l = some l1 → LRel μ l l' → LRel ν l1 l'
  | [], _, _, h, hl => by cases h; cases hl; exact .nil
  | v :: l, l1, _, h, hl => by
    cases hl with
    | cons h1 h2 =>
      simp only [renL] at h
      split at h
      · rename_i w m e1 e2
        cases h
        exact .cons (hf _ _ _ e1 h1) (renL_fwd hf l m _ e2 h2)
      · cases h
theorem renL_bwd {f : Value → Option Value} (hf : ∀ v v1 v', f v = some v1 → VRel ν v1 v' → VRel μ v v') : ∀ (l l1 l' : List Value), renL f l = some l1 → LRel ν l1 l' → LRel μ l l'
  | [], _, _, h, hl => by cases h; cases hl; exact .nil
  | v :: l, l1, l', h, hl => by
    simp only [renL] at h
    split at h
    · rename_i w m e1 e2
      cases h
      cases hl with
      | cons h1 h2 => exact .cons (hf _ _ _ e1 h1) (renL_bwd hf l m _ e2 h2)
    · cases h
theorem renA_eq {a a1 : Addr} (h : renA ρ a = some a1) : ∃ b o s i, a = ⟨b, o, s⟩ ∧ ρ b = some i ∧ a1 = ⟨i, o, s⟩ := by
  obtain ⟨b, o, s⟩ := a
  unfold renA at h
  simp only at h
  split at h
  · rename_i i e; cases h; exact ⟨b, o, s, i, rfl, e, rfl⟩
  · cases h

theorem ren_fwd (hρ : ∀ b i T, ρ b = some i → μ b = some T → ν i = some T) : ∀ (n : Nat) (v v1 v' : Value), renN ρ n v = some v1 → VRel μ v v' → VRel ν v1 v' := by
  intro n
  induction n with
  | zero => intro v v1 v' h; cases h
  | succ n ih =>
    intro v v1 v' h hr
    cases hr with
    | junk => simp only [renN, junk, Option.some.injEq] at h; subst h; exact .junk _
    | bool b => cases h; exact .bool b
    | int k m => cases h; exact .int k m
    | float k m => cases h; exact .float k m
    | string s => cases h; exact .string s
    | nilptr => cases h; exact .nilptr
    | nilslice l c => cases h; exact .nilslice l c
    | nilmap => cases h; exact .nilmap
    | nilFunc => cases h; exact .nilFunc
    | nilIface => cases h; exact .nilIface
    | ptr b o T hm =>
      simp only [renN, Option.map_eq_some_iff] at h
      obtain ⟨a, ha, rfl⟩ := h
      obtain ⟨b1, o1, s1, i, e1, e2, rfl⟩ := renA_eq ha
      cases e1
      exact .ptr i o T (hρ _ _ _ e2 hm)
    | vptr b o j T hm =>
      simp only [renN, Option.map_eq_some_iff] at h
      obtain ⟨a, ha, rfl⟩ := h
      obtain ⟨b1, o1, s1, i, e1, e2, rfl⟩ := renA_eq ha
      cases e1
      exact .vptr i o j T (hρ _ _ _ e2 hm)
    | slice b o l c c' o' T hm hc ho =>
      simp only [renN, Option.map_eq_some_iff] at h
      obtain ⟨a, ha, rfl⟩ := h
      obtain ⟨b1, o1, s1, i, e1, e2, rfl⟩ := renA_eq ha
      cases e1
      exact .slice i o l c c' o' T (hρ _ _ _ e2 hm) hc ho
    | vslice b j l c c' o' T hm hc ho hr =>
      simp only [renN, Option.map_eq_some_iff] at h
      obtain ⟨a, ha, rfl⟩ := h
      obtain ⟨b1, o1, s1, i, e1, e2, rfl⟩ := renA_eq ha
      cases e1
      exact .vslice i j l c c' o' T (hρ _ _ _ e2 hm) hc ho hr
    | vnil b j c T z hm hc =>
      simp only [renN, Option.map_eq_some_iff] at h
      obtain ⟨a, ha, rfl⟩ := h
      obtain ⟨b1, o1, s1, i, e1, e2, rfl⟩ := renA_eq ha
      cases e1
      exact .vnil i j c T z (hρ _ _ _ e2 hm) hc
    | map b T hm =>
      simp only [renN, Option.map_eq_some_iff] at h
      obtain ⟨i, hi, rfl⟩ := h
      exact .map i T (hρ _ _ _ hi hm)
    | iface t a a' ha =>
      simp only [renN, Option.map_eq_some_iff] at h
      obtain ⟨w, hw, rfl⟩ := h
      exact .iface t w a' (ih _ _ _ hw ha)
    | agg xs xs' hx ex =>
      obtain ⟨ys, he, hl⟩ := VRel.agg_iff.1 (.agg xs xs' hx ex)
      cases he
      simp only [renN, Option.map_eq_some_iff] at h
      obtain ⟨l, hl1, rfl⟩ := h
      exact VRel.agg_iff.2 ⟨_, rfl, renL_fwd ih _ _ _ hl1 hl⟩
    | tuple xs xs' hx ex =>
      obtain ⟨ys, he, hl⟩ := VRel.tuple_iff.1 (.tuple xs xs' hx ex)
      cases he
      simp only [renN, Option.map_eq_some_iff] at h
      obtain ⟨l, hl1, rfl⟩ := h
      exact VRel.tuple_iff.2 ⟨_, rfl, renL_fwd ih _ _ _ hl1 hl⟩
    | func fn fn' xs xs' ys ys' hf hx ex hy ey =>
      obtain ⟨fn2, xs2, ys2, he, hf2, hx2, hy2⟩ := VRel.func_iff.1 (.func fn fn' xs xs' ys ys' hf hx ex hy ey)
      cases he
      cases hf2 with
      | func f =>
        simp only [renN] at h
        split at h
        · rename_i a b e1 e2
          cases h
          exact VRel.func_iff.2 ⟨_, _, _, rfl, .func f, renL_fwd ih _ _ _ e1 hx2, renL_fwd ih _ _ _ e2 hy2⟩
        · cases h
      | _ => simp [renN] at h
theorem ren_bwd (hρ : ∀ b i T, ρ b = some i → ν i = some T → μ b = some T) : ∀ (n : Nat) (v v1 v' : Value), renN ρ n v = some v1 → VRel ν v1 v' → VRel μ v v' := by
  intro n
  induction n with
  | zero => intro v v1 v' h; cases h
  | succ n ih =>
    intro v v1 v' h hr
    unfold renN at h
    split at h
    · cases h; cases hr; exact .bool _
    · cases h; cases hr; exact .int _ _
    · cases h; cases hr; exact .float _ _
    · cases h; cases hr; exact .string _
    · cases h; cases hr; exact .nilptr
    · simp only [Option.map_eq_some_iff] at h
      obtain ⟨a, ha, rfl⟩ := h
      obtain ⟨b1, o1, s1, i, rfl, e2, rfl⟩ := renA_eq ha
      cases hr with
      | ptr _ _ T hm => exact .ptr b1 _ T (hρ _ _ _ e2 hm)
      | vptr _ _ j T hm => exact .vptr b1 _ j T (hρ _ _ _ e2 hm)
    · cases h; cases hr; exact .nilslice _ _
    · simp only [Option.map_eq_some_iff] at h
      obtain ⟨a, ha, rfl⟩ := h
      obtain ⟨b1, o1, s1, i, rfl, e2, rfl⟩ := renA_eq ha
      cases hr with
      | slice _ _ _ _ c' o' T hm hc ho => exact .slice b1 _ _ _ c' o' T (hρ _ _ _ e2 hm) hc ho
      | vslice _ j _ _ c' o' T hm hc ho hr => exact .vslice b1 j _ _ c' o' T (hρ _ _ _ e2 hm) hc ho hr
      | vnil _ j _ T z hm hc => exact .vnil b1 j _ T z (hρ _ _ _ e2 hm) hc
    · cases h; cases hr; exact .nilmap
    · simp only [Option.map_eq_some_iff] at h
      obtain ⟨i, hi, rfl⟩ := h
      cases hr with
      | map _ T hm => exact .map _ T (hρ _ _ _ hi hm)
    · cases h; cases hr; exact .nilFunc
    · cases h; cases hr; exact .nilIface
    · simp only [Option.map_eq_some_iff] at h
      obtain ⟨w, hw, rfl⟩ := h
      cases hr with
      | iface _ _ a' ha => exact .iface _ _ a' (ih _ _ _ hw ha)
    · simp only [Option.map_eq_some_iff] at h
      obtain ⟨l, hl, rfl⟩ := h
      obtain ⟨ys, rfl, hl2⟩ := VRel.agg_iff.1 hr
      exact VRel.agg_iff.2 ⟨_, rfl, renL_bwd ih _ _ _ hl hl2⟩
    · simp only [Option.map_eq_some_iff] at h
      obtain ⟨l, hl, rfl⟩ := h
      obtain ⟨ys, rfl, hl2⟩ := VRel.tuple_iff.1 hr
      exact VRel.tuple_iff.2 ⟨_, rfl, renL_bwd ih _ _ _ hl hl2⟩
    · split at h
      · rename_i a b e1 e2
        cases h
        obtain ⟨fn2, xs2, ys2, rfl, hf2, hx2, hy2⟩ := VRel.func_iff.1 hr
        cases hf2
        exact VRel.func_iff.2 ⟨_, _, _, rfl, .func _, renL_bwd ih _ _ _ e1 hx2, renL_bwd ih _ _ _ e2 hy2⟩
      · cases h
    · exact .junk _
    · cases h

def noTok : SK → Bool
  | .tok => false
  | _ => true
theorem encL_tok (l : List (EK.C [.tok])) : encL [.tok] l = l := by
  induction l with
  | nil => rfl
  | cons x l ih => rw [encL_cons, ih]; rfl
def renO (ρ : Ren) : IObj → Option IObj
  | .cells cs e ro => (renL (renV ρ) cs).map fun l => .cells l e ro
  | .vec [.tok] l ro => (renL (renV ρ) l).map fun l => .vec [.tok] l ro
  | .vec k l ro => bif k.all noTok then some (.vec k l ro) else none
  | .abs a ro => bif a.shutB then some (.abs a ro) else none
  | _ => none
theorem renO_plain {ρ : Ren} : ∀ (k : EK) (_ : k.all noTok = true) (l : List (EK.C k)) (ro : Bool), renO ρ (.vec k l ro) = some (.vec k l ro)
  | [], _, _, _ => rfl
  | [.tok], hk, _, _ => by cases hk
  | [.int _], _, _, _ => rfl
  | [.bool], _, _, _ => rfl
  | [.str], _, _, _ => rfl
  | s :: t :: r, hk, l, ro => by
    cases s with
    | tok => cases hk
    | _ => show (bif List.all _ noTok then some (IObj.vec _ l ro) else none) = _; rw [hk]; rfl
theorem renO_vec {ρ : Ren} {k : EK} {l : List (EK.C k)} {ro : Bool} {o1 : IObj} (h : renO ρ (.vec k l ro) = some o1) :
    (∃ l' l1 : List (EK.C [.tok]), (⟨k, l⟩ : (k : EK) × List (EK.C k)) = ⟨[.tok], l'⟩ ∧ renL (renV ρ) l' = some l1 ∧ o1 = .vec [.tok] l1 ro) ∨ (k.all noTok = true ∧ o1 = .vec k l ro) := by
  unfold renO at h
  split at h
  · rename_i heq; cases heq
  · rename_i l2 ro2 he
    cases he
    simp only [Option.map_eq_some_iff] at h
    obtain ⟨l1, hl, rfl⟩ := h
    exact .inl ⟨l2, l1, rfl, hl, rfl⟩
  · rename_i k2 l2 ro2 hne he
    injection he with e1 e2 e3
    subst e1
    cases e2
    subst e3
    cases hk : k.all noTok
    · simp [hk] at h
    · simp only [hk, cond_true, Option.some.injEq] at h
      exact .inr ⟨rfl, h.symm⟩
  · rename_i heq; cases heq
  · cases h
theorem renO_tok {ρ : Ren} {l l1 : List (EK.C [.tok])} {ro : Bool} (h : renL (renV ρ) l = some l1) : renO ρ (.vec [.tok] l ro) = some (.vec [.tok] l1 ro) := by
  show (renL (renV ρ) l).map _ = _
  rw [h]; rfl
theorem renL_length {f : Value → Option Value} : ∀ (l l1 : List Value), renL f l = some l1 → l1.length = l.length
  | [], _, h => by cases h; rfl
  | v :: l, l1, h => by
    simp only [renL] at h
    split at h
    · rename_i w m e1 e2; cases h; simp [renL_length l m e2]
    · cases h
theorem SK.enc_flat (s : SK) (hs : noTok s = true) (x : s.C) : flat (s.enc x) = true := by
  cases s <;> first | rfl | cases hs
theorem EK.enc_flat : ∀ (k : EK), k.all noTok = true → ∀ (x : EK.C k), ∀ v ∈ EK.enc k x, flat v = true
  | [], _, _, v, h => by cases h
  | [s], hk, x, v, h => by
    simp only [EK.enc, List.mem_singleton] at h
    subst h
    exact SK.enc_flat s (by simpa using hk) x
  | s :: t :: r, hk, x, v, h => by
    simp only [EK.enc, List.mem_cons] at h
    simp only [List.all_cons, Bool.and_eq_true] at hk
    rcases h with rfl | h
    · exact SK.enc_flat s hk.1 _
    · exact EK.enc_flat (t :: r) (by simpa using hk.2) x.2 v (by simpa using h)
theorem flats_any : ∀ (l : List Value), (∀ v ∈ l, flat v = true) → ∀ l', LRel μ l l' → LRel ν l l'
  | [], _, _, h => by cases h; exact .nil
  | v :: l, hf, _, h => by
    cases h with
    | cons h1 h2 =>
      have := flat_eq (hf v (by simp)) h1
      subst this
      exact .cons (flat_refl (hf _ (by simp))) (flats_any l (fun w hw => hf w (by simp [hw])) _ h2)
theorem encL_flat {k : EK} (hk : k.all noTok = true) (l : List (EK.C k)) : ∀ v ∈ encL k l, flat v = true := by
  intro v hv
  simp only [encL, List.mem_flatMap] at hv
  obtain ⟨x, _, hx⟩ := hv
  exact EK.enc_flat k hk x v hx
theorem renO_fwd (hρ : ∀ b i T, ρ b = some i → μ b = some T → ν i = some T) {o o1 : IObj} {T : Tgt} {o' : Obj} (h : renO ρ o = some o1) (hr : ORel μ T o o') : ORel ν T o1 o' := by
  unfold renO at h
  split at h
  · simp only [Option.map_eq_some_iff] at h
    obtain ⟨l, hl, rfl⟩ := h
    cases hr with
    | cells _ _ _ c t lo hi he hc hr hf =>
      have := renL_length _ _ hl
      exact .cells T l _ _ c t lo hi he (by rw [this]; exact renL_fwd (ren_fwd hρ 6) _ _ _ hl hc) hr hf
  · rename_i l ro
    simp only [Option.map_eq_some_iff] at h
    obtain ⟨l1, hl, rfl⟩ := h
    have hl : renL (renV ρ) l = some l1 := hl
    cases hr with
    | vec _ _ _ _ hc =>
      refine .vec T [.tok] l1 ro _ ?_
      rw [encL_tok] at hc ⊢
      cases hc with
      | cells _ _ _ c t lo hi he hc hr hf =>
        have := renL_length _ _ hl
        exact .cells T l1 _ _ c t lo hi he (by rw [this]; exact renL_fwd (ren_fwd hρ 6) _ _ _ hl hc) hr hf
    | vec0 _ _ _ he hr hk => cases hl; exact .vec0 T _ _ _ he hr hk
  · rename_i k l ro _
    cases hk : k.all noTok
    · simp [hk] at h
    · simp only [hk, cond_true, Option.some.injEq] at h
      subst h
      cases hr with
      | vec _ _ _ _ hc => cases hc with
        | cells _ _ _ c t lo hi he hc hr hf => exact .vec T _ _ _ _ (.cells T _ _ _ c t lo hi he (flats_any _ (encL_flat hk l) _ hc) hr hf)
      | vec0 _ _ _ he hr hk => exact .vec0 T _ _ _ he hr hk
  · rename_i a ro
    cases hx : a.shutB
    · simp [hx] at h
    · simp only [hx, cond_true, Option.some.injEq] at h
      subst h; cases hr; exact .abs T _ _ _
  · cases h
theorem renO_bwd (hρ : ∀ b i T, ρ b = some i → ν i = some T → μ b = some T) {o o1 : IObj} {T : Tgt} {o' : Obj} (h : renO ρ o = some o1) (hr : ORel ν T o1 o') : ORel μ T o o' := by
  unfold renO at h
  split at h
  · simp only [Option.map_eq_some_iff] at h
    obtain ⟨l, hl, rfl⟩ := h
    cases hr with
    | cells _ _ _ c t lo hi he hc hr hf =>
      have := renL_length _ _ hl
      exact .cells T _ _ _ c t lo hi he (by rw [← this]; exact renL_bwd (ren_bwd hρ 6) _ _ _ hl hc) hr hf
  · rename_i l ro
    simp only [Option.map_eq_some_iff] at h
    obtain ⟨l1, hl, rfl⟩ := h
    have hl : renL (renV ρ) l = some l1 := hl
    have hlen := renL_length _ _ hl
    cases hr with
    | vec _ _ _ _ hc =>
      refine .vec T [.tok] l ro _ ?_
      rw [encL_tok] at hc ⊢
      cases hc with
      | cells _ _ _ c t lo hi he hc hr hf =>
        exact .cells T _ _ _ c t lo hi he (by rw [← hlen]; exact renL_bwd (ren_bwd hρ 6) _ _ _ hl hc) hr hf
    | vec0 _ _ _ he hr hk =>
      have : l = [] := List.eq_nil_of_length_eq_zero (by rw [← hlen]; rfl)
      subst this
      exact .vec0 T _ _ _ he hr hk
  · rename_i k l ro _
    cases hk : k.all noTok
    · simp [hk] at h
    · simp only [hk, cond_true, Option.some.injEq] at h
      subst h
      cases hr with
      | vec _ _ _ _ hc => cases hc with
        | cells _ _ _ c t lo hi he hc hr hf => exact .vec T _ _ _ _ (.cells T _ _ _ c t lo hi he (flats_any _ (encL_flat hk l) _ hc) hr hf)
      | vec0 _ _ _ he hr hk => exact .vec0 T _ _ _ he hr hk
  · rename_i a ro
    cases hx : a.shutB
    · simp [hx] at h
    · simp only [hx, cond_true, Option.some.injEq] at h
      subst h; cases hr; exact .abs T _ _ _
  · cases h
theorem renO_ro {o o1 : IObj} (h : renO ρ o = some o1) : o1.ro = o.ro ∧ o1.isAbs = o.isAbs ∧ ∀ a ro, o1 = .abs a ro → o = .abs a ro ∧ a.ext = [] := by
  unfold renO at h
  split at h
  · simp only [Option.map_eq_some_iff] at h
    obtain ⟨l, hl, rfl⟩ := h
    exact ⟨rfl, rfl, fun a ro e => by cases e⟩
  · rename_i l ro
    simp only [Option.map_eq_some_iff] at h
    obtain ⟨l1, hl, rfl⟩ := h
    exact ⟨rfl, rfl, fun a ro e => by cases e⟩
  · rename_i k l ro _
    cases hk : k.all noTok
    · simp [hk] at h
    · simp only [hk, cond_true, Option.some.injEq] at h
      subst h
      exact ⟨rfl, rfl, fun a ro e => by cases e⟩
  · rename_i a ro
    cases hx : a.shutB
    · simp [hx] at h
    · simp only [hx, cond_true, Option.some.injEq] at h
      subst h
      exact ⟨rfl, rfl, fun a2 ro2 e => by cases e; exact ⟨rfl, Abs.shutB_eq hx⟩⟩
  · cases h
theorem renO_void {o o1 : IObj} (h : renO ρ o = some o1) (T : Tgt) : o1.void T ↔ o.void T := by
  unfold renO at h
  split at h
  · simp only [Option.map_eq_some_iff] at h
    obtain ⟨l, hl, rfl⟩ := h
    exact Iff.rfl
  · rename_i l ro
    simp only [Option.map_eq_some_iff] at h
    obtain ⟨l1, hl, rfl⟩ := h
    have hlen := renL_length _ _ (show renL (renV ρ) l = some l1 from hl)
    have e : l1 = [] ↔ l = [] := ⟨fun e => List.eq_nil_of_length_eq_zero (by rw [← hlen, e]; rfl), fun e => List.eq_nil_of_length_eq_zero (by rw [hlen, e]; rfl)⟩
    exact and_congr e Iff.rfl
  · rename_i k l ro _
    cases hk : k.all noTok
    · simp [hk] at h
    · simp only [hk, cond_true, Option.some.injEq] at h
      subst h
      exact Iff.rfl
  · rename_i a ro
    cases hx : a.shutB
    · simp [hx] at h
    · simp only [hx, cond_true, Option.some.injEq] at h
      subst h
      exact Iff.rfl
  · cases h
end
end Go.Ideal

namespace Go.Ideal
def LiftEnd (Hc H H' : IHeap) (ρ : Ren) (v vc : Value) (Hf : IHeap) : Prop := ∃ ρ' : Ren,
  (∀ b1 b2 i, ρ' b1 = some i → ρ' b2 = some i → b1 = b2) ∧ (∀ b, b < Hc.next → ρ' b = ρ b) ∧ (∀ b i, ρ' b = some i → Hc.next ≤ b → H.next ≤ i ∧ i < H'.next) ∧
  (∀ i o, H'.get i = some o → (H.next ≤ i ∨ ∃ b o0, Hc.get b = some o0 ∧ o0.ro = false ∧ ρ b = some i) → ∃ b o0, ρ' b = some i ∧ Hf.get b = some o0 ∧ renO ρ' o0 = some o ∧ o0.ro = false) ∧
  renV ρ' vc = some v
end Go.Ideal

namespace Go.Ideal

abbrev Rn := Nat → Option Nat
def rwFn (ρ : Rn) : Fn → Option Fn
  | .yield l => (ρ l).map .yield
  | f => some f
def rwN (ρ : Rn) : Nat → Value → Value
  | 0, _ => junk
  | n + 1, v => match v with
    | .pointer (some ⟨b, o, s⟩) => match ρ b with
      | some i => .pointer (some ⟨i, o, s⟩)
      | none => junk
    | .slice (some ⟨b, o, s⟩) l c => match ρ b with
      | some i => .slice (some ⟨i, o, s⟩) l c
      | none => junk
    | .map (some b) => match ρ b with
      | some i => .map (some i)
      | none => junk
    | .iface t v => .iface t (rwN ρ n v)
    | .agg cs => .agg ⟨cs.toList.map (rwN ρ n)⟩
    | .tuple cs => .tuple ⟨cs.toList.map (rwN ρ n)⟩
    | .func f xs ys => match rwFn ρ f with
      | some f' => .func f' ⟨xs.toList.map (rwN ρ n)⟩ ⟨ys.toList.map (rwN ρ n)⟩
      | none => junk
    | v => v
abbrev rwV (ρ : Rn) (v : Value) : Value := rwN ρ 8 v

section
variable {ρ : Rn} {μ ν : Inj}
theorem rwFn_fwd (hρ : ∀ b i T, ρ b = some i → μ b = some T → ν i = some T) {f g f' : Fn} (h : rwFn ρ f = some g) (hr : FnRel μ f f') : FnRel ν g f' := by
  cases hr with
  | func f => cases h; exact .func f
  | method n => cases h; exact .method n
  | methodOf t n => cases h; exact .methodOf t n
  | via t p f b => cases h; exact .via t p f b
  | yield l T hm =>
    simp only [rwFn, Option.map_eq_some_iff] at h
    obtain ⟨i, hi, rfl⟩ := h
    exact .yield i T (hρ _ _ _ hi hm)
theorem rwL_fwd {f : Value → Value} (hf : ∀ v v', VRel μ v v' → VRel ν (f v) v') : ∀ {l l' : List Value}, LRel μ l l' → LRel ν (l.map f) l'
  | _, _, .nil => .nil
  | _, _, .cons h t => .cons (hf _ _ h) (rwL_fwd hf t)
theorem rw_fwd (hρ : ∀ b i T, ρ b = some i → μ b = some T → ν i = some T) : ∀ (n : Nat) (v v' : Value), VRel μ v v' → VRel ν (rwN ρ n v) v' := by
  intro n
  induction n with
  | zero => intro v v' _; exact .junk _
  | succ n ih =>
    intro v v' hr
    cases hr with
    | junk => exact .junk _
    | bool b => exact .bool b
    | int k m => exact .int k m
    | float k m => exact .float k m
    | string s => exact .string s
    | nilptr => exact .nilptr
    | nilslice l c => exact .nilslice l c
    | nilmap => exact .nilmap
    | nilFunc => exact .nilFunc
    | nilIface => exact .nilIface
    | ptr b o T hm =>
      simp only [rwN]
      cases hb : ρ b with
      | none => exact .junk _
      | some i => exact .ptr i o T (hρ _ _ _ hb hm)
    | vptr b o j T hm =>
      simp only [rwN]
      cases hb : ρ b with
      | none => exact .junk _
      | some i => exact .vptr i o j T (hρ _ _ _ hb hm)
    | slice b o l c c' o' T hm hc ho =>
      simp only [rwN]
      cases hb : ρ b with
      | none => exact .junk _
      | some i => exact .slice i o l c c' o' T (hρ _ _ _ hb hm) hc ho
    | vslice b j l c c' o' T hm hc ho hr =>
      simp only [rwN]
      cases hb : ρ b with
      | none => exact .junk _
      | some i => exact .vslice i j l c c' o' T (hρ _ _ _ hb hm) hc ho hr
    | vnil b j c T z hm hc =>
      simp only [rwN]
      cases hb : ρ b with
      | none => exact .junk _
      | some i => exact .vnil i j c T z (hρ _ _ _ hb hm) hc
    | map b T hm =>
      simp only [rwN]
      cases hb : ρ b with
      | none => exact .junk _
      | some i => exact .map i T (hρ _ _ _ hb hm)
    | iface t a a' ha => exact .iface t _ a' (ih _ _ ha)
    | agg xs xs' hx ex =>
      obtain ⟨ys, he, hl⟩ := VRel.agg_iff.1 (.agg xs xs' hx ex)
      cases he
      exact VRel.agg_iff.2 ⟨_, rfl, rwL_fwd ih hl⟩
    | tuple xs xs' hx ex =>
      obtain ⟨ys, he, hl⟩ := VRel.tuple_iff.1 (.tuple xs xs' hx ex)
      cases he
      exact VRel.tuple_iff.2 ⟨_, rfl, rwL_fwd ih hl⟩
    | func fn fn' xs xs' ys ys' hf hx ex hy ey =>
      obtain ⟨fn2, xs2, ys2, he, hf2, hx2, hy2⟩ := VRel.func_iff.1 (.func fn fn' xs xs' ys ys' hf hx ex hy ey)
      cases he
      simp only [rwN]
      cases hb : rwFn ρ fn with
      | none => exact .junk _
      | some g => exact VRel.func_iff.2 ⟨_, _, _, rfl, rwFn_fwd hρ hb hf2, rwL_fwd ih hx2, rwL_fwd ih hy2⟩
end

noncomputable def Tr.mapT (f : Value → Value) (t : Tr Value) : Tr Value :=
  Tr.rec (motive := fun _ => Tr Value) .leaf (fun _ v _ ihl ihr => .node ihl (v.map f) ihr) t
theorem Tr.get_mapT (f : Value → Value) (t : Tr Value) (i : Nat) : (t.mapT f).get i = (t.get i).map f := by
  unfold Tr.get
  generalize Pth.of i = p
  induction t generalizing p with
  | leaf => cases p <;> rfl
  | node l v r ihl ihr =>
    cases p with
    | e => rfl
    | z p => exact ihl p
    | o p => exact ihr p
noncomputable def liveT (f : Value → Value) (t : Tr Value) : List Nat → Tr Value
  | [] => .leaf
  | i :: r => (liveT f t r).put i (some (f (look t i)))
theorem look_liveT (f : Value → Value) (t : Tr Value) : ∀ (l : List Nat) (i : Nat), look (liveT f t l) i = junk ∨ look (liveT f t l) i = f (look t i)
  | [], i => .inl rfl
  | j :: r, i => by
    unfold liveT look
    rw [Tr.get_put]
    by_cases e : i = j
    · subst e; rw [if_pos rfl]; exact .inr rfl
    · rw [if_neg e]; exact look_liveT f t r i

section
variable {ρ : Rn} {μ ν : Inj}
theorem mapT_rel (hρ : ∀ b i T, ρ b = some i → μ b = some T → ν i = some T) {t : Tr Value} {n : Nat} {a : Array Value} (h : TRel μ t n a) : TRel ν (t.mapT (rwV ρ)) n a := by
  refine ⟨h.1, fun i => ?_⟩
  have := h.2 i
  unfold look at this ⊢
  rw [Tr.get_mapT]
  cases hg : t.get i with
  | none => exact .junk _
  | some v => rw [hg] at this; exact rw_fwd hρ 8 _ _ this
theorem liveT_rel (hρ : ∀ b i T, ρ b = some i → μ b = some T → ν i = some T) {t : Tr Value} {n : Nat} {a : Array Value} (h : TRel μ t n a) (l : List Nat) : TRel ν (liveT (rwV ρ) t l) n a := by
  refine ⟨h.1, fun i => ?_⟩
  rcases look_liveT (rwV ρ) t l i with e | e
  · rw [e]; exact .junk _
  · rw [e]; exact rw_fwd hρ 8 _ _ (h.2 i)
end

def rwIt (ρ : Rn) : IItem → Option IItem
  | .dreg _ _ => none
  | .inRangeFunc l => (ρ l).map .inRangeFunc
  | .endRangeFunc l => (ρ l).map .endRangeFunc
  | x => some x
def rwIts (ρ : Rn) : List IItem → Option (List IItem)
  | [] => some []
  | x :: r => match rwIt ρ x, rwIts ρ r with
    | some y, some l => some (y :: l)
    | _, _ => none
def rwTg (ρ : Rn) : Target → Option Target
  | .collected b => (ρ b).map .collected
  | .fn f ys => (rwFn ρ f).map fun g => .fn g ⟨ys.toList.map (rwV ρ)⟩
  | t => some t
def rwDs (ρ : Rn) : List Deferred → Option (List Deferred)
  | [] => some []
  | d :: r => match rwTg ρ d.target, rwDs ρ r with
    | some t, some l => some (⟨t, ⟨d.args.toList.map (rwV ρ)⟩⟩ :: l)
    | _, _ => none
def rwRd (ρ : Rn) : Option Nat → Option (Option Nat)
  | none => some none
  | some l => (ρ l).map some
section
variable {ρ : Rn} {μ ν : Inj}
theorem rwIt_fwd (hρ : ∀ b i T, ρ b = some i → μ b = some T → ν i = some T) {x y : IItem} {x' : Item} (h : rwIt ρ x = some y) (hr : ItRel μ x x') : ItRel ν y x' := by
  cases hr with
  | code c => cases h; exact .code c
  | inBlock i => cases h; exact .inBlock i
  | inLoop c => cases h; exact .inLoop c
  | inScope c => cases h; exact .inScope c
  | reg ops l idx hh => cases h; exact .reg ops l idx hh
  | beginRound => cases h; exact .beginRound
  | inRangeFunc l T hm =>
    simp only [rwIt, Option.map_eq_some_iff] at h
    obtain ⟨i, hi, rfl⟩ := h
    exact .inRangeFunc i T (hρ _ _ _ hi hm)
  | endRangeFunc l T hm =>
    simp only [rwIt, Option.map_eq_some_iff] at h
    obtain ⟨i, hi, rfl⟩ := h
    exact .endRangeFunc i T (hρ _ _ _ hi hm)
theorem rwIts_fwd (hρ : ∀ b i T, ρ b = some i → μ b = some T → ν i = some T) {l l1 : List IItem} {l' : List Item} (h : rwIts ρ l = some l1) (hr : ItsRel μ l l') : ItsRel ν l1 l' := by
  induction hr generalizing l1 with
  | nil => cases h; exact .nil
  | cons hx _ ih =>
    simp only [rwIts] at h
    split at h
    · rename_i y m e1 e2; cases h; exact .cons (rwIt_fwd hρ e1 hx) (ih e2)
    · cases h
theorem rwTg_fwd (hρ : ∀ b i T, ρ b = some i → μ b = some T → ν i = some T) {t t1 t' : Target} (h : rwTg ρ t = some t1) (hr : TgtRel μ t t') : TgtRel ν t1 t' := by
  cases hr with
  | nil => cases h; exact .nil
  | builtin b ts t cs => cases h; exact .builtin b ts t cs
  | collected r T hm =>
    simp only [rwTg, Option.map_eq_some_iff] at h
    obtain ⟨i, hi, rfl⟩ := h
    exact .collected i T (hρ _ _ _ hi hm)
  | fn fn fn' ys ys' hf hy =>
    simp only [rwTg, Option.map_eq_some_iff] at h
    obtain ⟨g, hg, rfl⟩ := h
    exact .fn _ _ _ _ (rwFn_fwd hρ hg hf) (rwL_fwd (rw_fwd hρ 8) hy)
theorem rwDs_fwd (hρ : ∀ b i T, ρ b = some i → μ b = some T → ν i = some T) {l l1 l' : List Deferred} (h : rwDs ρ l = some l1) (hr : DefsRel μ l l') : DefsRel ν l1 l' := by
  induction hr generalizing l1 with
  | nil => cases h; exact .nil
  | cons hx _ ih =>
    simp only [rwDs] at h
    split at h
    · rename_i t m e1 e2; cases h; exact .cons ⟨rwTg_fwd hρ e1 hx.tgt, rwL_fwd (rw_fwd hρ 8) hx.args⟩ (ih e2)
    · cases h
theorem rwRd_fwd (hρ : ∀ b i T, ρ b = some i → μ b = some T → ν i = some T) {x y : Option Nat} {x' : Option Nat} (h : rwRd ρ x = some y) (hr : RdRel μ x x') : RdRel ν y x' := by
  cases hr with
  | none => cases h; exact .none
  | some l T hm =>
    simp only [rwRd, Option.map_eq_some_iff] at h
    obtain ⟨i, hi, rfl⟩ := h
    exact .some i T (hρ _ _ _ hi hm)
end

def noTok' : SK → Bool
  | .tok => false
  | _ => true
def rwEnts (ρ : Rn) (l : List MapEntry) : List MapEntry := l.map fun e => ⟨rwV ρ e.key, rwV ρ e.val, e.born⟩
noncomputable def rwO (ρ : Rn) : IObj → Option IObj
  | .cells cs e ro => some (.cells (cs.map (rwV ρ)) e ro)
  | .vec [.tok] l ro => some (.vec [.tok] (List.map (rwV ρ) l) ro)
  | .vec k l ro => bif k.all noTok' then some (.vec k l ro) else none
  | .abs a ro => bif a.shutB then some (.abs a ro) else none
  | .strIter s p => some (.strIter s p)
  | .deferred none => some (.deferred none)
  | .deferred (some l) => (rwDs ρ l).map fun l => .deferred (some l)
  | .map es clock => some (.map (rwEnts ρ es) clock)
  | .loop q => (ρ q.defers).map fun d => .loop ⟨q.state, q.pending, q.fn, q.tmps.mapT (rwV ρ), q.n, q.params, q.assign, q.body, d⟩

section
variable {ρ : Rn} {μ ν : Inj}
theorem enc_mem : ∀ (k : EK), k.all noTok' = true → ∀ (x : EK.C k) (v : Value), v ∈ EK.enc k x → ∃ s y, noTok' s = true ∧ v = SK.enc s y
  | [], _, _, v, h => by cases h
  | [s], hk, x, v, h => by
    simp only [EK.enc, List.mem_singleton] at h
    exact ⟨s, x, by simpa using hk, h⟩
  | s :: t :: r, hk, x, v, h => by
    simp only [EK.enc, List.mem_cons] at h
    have hk : noTok' s = true ∧ (t :: r).all noTok' = true := by simpa only [List.all_cons, Bool.and_eq_true] using hk
    rcases h with h | h
    · exact ⟨s, x.1, hk.1, h⟩
    · exact enc_mem (t :: r) hk.2 x.2 v h
theorem encPlain_rel (k : EK) (hk : k.all noTok' = true) (l : List (EK.C k)) {l' : List Value} (h : LRel μ (encL k l) l') : LRel ν (encL k l) l' := by
  have hs : ∀ (s : SK), noTok' s = true → ∀ (x : s.C) (v' : Value), VRel μ (s.enc x) v' → VRel ν (s.enc x) v' := by
    intro s hs x v' h
    cases s with
    | int k => have h : VRel μ (.int k x) v' := h; cases h; exact .int _ _
    | bool => have h : VRel μ (.bool x) v' := h; cases h; exact .bool _
    | str => have h : VRel μ (.string x) v' := h; cases h; exact .string _
    | tok => cases hs
  have key : ∀ (vs : List Value), (∀ v ∈ vs, ∃ s x, noTok' s = true ∧ v = SK.enc s x) → ∀ l', LRel μ vs l' → LRel ν vs l' := by
    intro vs
    induction vs with
    | nil => intro _ l' h; cases h; exact .nil
    | cons v vs ih =>
      intro hv l' h
      cases h with
      | cons h1 h2 =>
        obtain ⟨s, x, a, rfl⟩ := hv v (by simp)
        exact .cons (hs s a x _ h1) (ih (fun w hw => hv w (by simp [hw])) _ h2)
  refine key _ ?_ _ h
  intro v hv
  unfold encL at hv
  rw [List.mem_flatMap] at hv
  obtain ⟨x, _, hx⟩ := hv
  exact enc_mem k hk x v hx

theorem encL_tok' (l : List (EK.C [.tok])) : encL [.tok] l = l := by
  induction l with
  | nil => rfl
  | cons x l ih => rw [encL_cons, ih]; rfl
theorem rwO_vec {k : EK} {l : List (EK.C k)} {ro : Bool} {o1 : IObj} (h : rwO ρ (.vec k l ro) = some o1) : (∃ l' : List (EK.C [.tok]), (⟨k, l⟩ : (k : EK) × List (EK.C k)) = ⟨[.tok], l'⟩ ∧ o1 = .vec [.tok] (List.map (rwV ρ) l') ro) ∨ (k.all noTok' = true ∧ o1 = .vec k l ro) := by
  unfold rwO at h
  split at h
  · rename_i heq; cases heq
  · rename_i l2 ro2 he
    cases he
    cases h
    exact .inl ⟨l2, rfl, rfl⟩
  · rename_i k2 l2 ro2 hne he
    injection he with e1 e2 e3
    subst e1
    cases e2
    subst e3
    cases hk : k.all noTok'
    · simp [hk] at h
    · simp only [hk, cond_true, Option.some.injEq] at h
      exact .inr ⟨rfl, h.symm⟩
  all_goals (rename_i heq; cases heq)
theorem rwO_fwd (hρ : ∀ b i T, ρ b = some i → μ b = some T → ν i = some T) {o o1 : IObj} {T : Tgt} {o' : Obj} (h : rwO ρ o = some o1) (hr : ORel μ T o o') : ORel ν T o1 o' := by
  cases hr with
  | cells cs e ro c t lo hi he hc hs hf =>
    simp only [rwO, Option.some.injEq] at h
    subst h
    refine .cells T _ e ro c t lo hi he ?_ hs hf
    rw [List.length_map]
    exact rwL_fwd (rw_fwd hρ 8) hc
  | loop l a R ht hd =>
    simp only [rwO, Option.map_eq_some_iff] at h
    obtain ⟨d, hd1, rfl⟩ := h
    exact .loop T ⟨l.state, l.pending, l.fn, l.tmps.mapT (rwV ρ), l.n, l.params, l.assign, l.body, d⟩ a R (mapT_rel hρ ht) (hρ _ _ _ hd1 hd)
  | deferredNone => cases h; exact .deferredNone T
  | deferred l l' hl =>
    simp only [rwO, Option.map_eq_some_iff] at h
    obtain ⟨d, hd1, rfl⟩ := h
    exact .deferred T _ _ (rwDs_fwd hρ hd1 hl)
  | strIter s p hd => cases h; exact .strIter T s p hd
  | map es es' clock he =>
    simp only [rwO, Option.some.injEq] at h
    subst h
    refine .map T _ es' clock ?_
    generalize es'.toList = q at he
    induction he with
    | nil => exact .nil
    | cons hk hv hb _ ih => exact .cons (rw_fwd hρ 8 _ _ hk) (rw_fwd hρ 8 _ _ hv) hb ih
  | vec k l ro o hc =>
    rcases rwO_vec h with ⟨l2, e, rfl⟩ | ⟨hk, rfl⟩
    · cases e
      refine .vec T [.tok] _ ro o' ?_
      rw [encL_tok'] at hc ⊢
      cases hc with
      | cells cs e ro c t lo hi he hc hs hf =>
        refine .cells T _ _ ro c t lo hi he ?_ hs hf
        rw [List.length_map]
        exact rwL_fwd (rw_fwd hρ 8) hc
    · refine .vec T k l ro o' ?_
      cases hc with
      | cells cs e ro c t lo hi he hc hs hf => exact .cells T _ _ ro c t lo hi he (encPlain_rel k hk l hc) hs hf
  | vec0 k ro o he hr hk0 =>
    rcases rwO_vec h with ⟨l2, e, rfl⟩ | ⟨hk, rfl⟩
    · cases e
      exact .vec0 T [.tok] ro _ he hr hk0
    · exact .vec0 T k ro _ he hr hk0
  | abs a ro o =>
    simp only [rwO] at h
    cases hx : a.shutB
    · simp [hx] at h
    · simp only [hx, cond_true, Option.some.injEq] at h
      subst h; exact .abs T a ro o'
theorem rwO_void {o o1 : IObj} (h : rwO ρ o = some o1) (T : Tgt) : o1.void T ↔ o.void T := by
  cases o with
  | cells cs e ro => cases h; exact Iff.rfl
  | vec k l ro =>
    rcases rwO_vec h with ⟨l2, e, rfl⟩ | ⟨hk, rfl⟩
    · cases e
      exact and_congr (by simp) Iff.rfl
    · exact Iff.rfl
  | abs a ro =>
    simp only [rwO] at h
    cases hx : a.shutB
    · simp [hx] at h
    · simp only [hx, cond_true, Option.some.injEq] at h; subst h; exact Iff.rfl
  | strIter s p => cases h; exact Iff.rfl
  | deferred d =>
    cases d with
    | none => cases h; exact Iff.rfl
    | some l =>
      simp only [rwO, Option.map_eq_some_iff] at h
      obtain ⟨d, _, rfl⟩ := h
      exact Iff.rfl
  | map es clock => cases h; exact Iff.rfl
  | loop q =>
    simp only [rwO, Option.map_eq_some_iff] at h
    obtain ⟨d, _, rfl⟩ := h
    exact Iff.rfl
theorem rwO_ro {o o1 : IObj} (h : rwO ρ o = some o1) : o1.ro = o.ro ∧ o1.isAbs = o.isAbs ∧ ∀ a ro, o1 = .abs a ro → o = .abs a ro ∧ a.ext = [] := by
  cases o with
  | cells cs e ro => cases h; exact ⟨rfl, rfl, fun _ _ e => by cases e⟩
  | vec k l ro =>
    rcases rwO_vec h with ⟨l2, e, rfl⟩ | ⟨hk, rfl⟩
    · cases e
      exact ⟨rfl, rfl, fun _ _ e => by cases e⟩
    · exact ⟨rfl, rfl, fun _ _ e => by cases e⟩
  | abs a ro =>
    simp only [rwO] at h
    cases hx : a.shutB
    · simp [hx] at h
    · simp only [hx, cond_true, Option.some.injEq] at h; subst h
      exact ⟨rfl, rfl, fun _ _ e => by cases e; exact ⟨rfl, Abs.shutB_eq hx⟩⟩
  | strIter s p => cases h; exact ⟨rfl, rfl, fun _ _ e => by cases e⟩
  | deferred d =>
    cases d with
    | none => cases h; exact ⟨rfl, rfl, fun _ _ e => by cases e⟩
    | some l =>
      simp only [rwO, Option.map_eq_some_iff] at h
      obtain ⟨d, _, rfl⟩ := h
      exact ⟨rfl, rfl, fun _ _ e => by cases e⟩
  | map es c => cases h; exact ⟨rfl, rfl, fun _ _ e => by cases e⟩
  | loop q =>
    simp only [rwO, Option.map_eq_some_iff] at h
    obtain ⟨d, _, rfl⟩ := h
    exact ⟨rfl, rfl, fun _ _ e => by cases e⟩
end

def posIn (b : Nat) : List Nat → Nat → Option Nat
  | [], _ => none
  | i :: r, k => bif Nat.beq b i then some k else posIn b r (k + 1)
def rnOf (N : Nat) (ids : List Nat) : Rn := fun b => bif Nat.blt b N then some b else posIn b ids N
theorem posIn_eq {b : Nat} : ∀ {ids : List Nat} {k i : Nat}, posIn b ids k = some i → k ≤ i ∧ i < k + ids.length ∧ ids[i - k]? = some b
  | [], k, i, h => by cases h
  | a :: r, k, i, h => by
    unfold posIn at h
    cases hb : Nat.beq b a
    · simp only [hb, cond_false] at h
      obtain ⟨h1, h2, h3⟩ := posIn_eq h
      refine ⟨by omega, by simp only [List.length_cons]; omega, ?_⟩
      rw [show i - k = (i - (k + 1)) + 1 by omega, List.getElem?_cons_succ]
      exact h3
    · simp only [hb, cond_true, Option.some.injEq] at h
      subst h
      refine ⟨Nat.le_refl _, by simp, ?_⟩
      rw [Nat.sub_self, Nat.eq_of_beq_eq_true hb]; rfl
def backOf (N : Nat) (ids : List Nat) (i : Nat) : Option Nat := if i < N then some i else ids[i - N]?
theorem rn_back {N : Nat} {ids : List Nat} {b i : Nat} (h : rnOf N ids b = some i) : backOf N ids i = some b := by
  unfold rnOf at h
  unfold backOf
  cases hb : Nat.blt b N
  · simp only [hb, cond_false] at h
    obtain ⟨h1, h2, h3⟩ := posIn_eq h
    rw [if_neg (by omega)]; exact h3
  · simp only [hb, cond_true, Option.some.injEq] at h
    subst h
    rw [if_pos (show b < N from Nat.le_of_ble_eq_true hb)]

noncomputable def rwHeap (ρ : Rn) (m : Tr IObj) : List Nat → Option (Tr IObj)
  | [] => some .leaf
  | b :: r => match rwHeap ρ m r with
    | some t => match ρ b, m.get b with
      | some i, some o => match rwO ρ o with
        | some o1 => some (t.put i (some o1))
        | none => none
      | _, _ => none
    | none => none
theorem rwHeap_get {ρ : Rn} {m : Tr IObj} : ∀ {l : List Nat} {t : Tr IObj}, rwHeap ρ m l = some t → ∀ i o1, t.get i = some o1 → ∃ b o, ρ b = some i ∧ m.get b = some o ∧ rwO ρ o = some o1
  | [], t, h, i, o1, hg => by cases h; cases hg
  | b :: r, t, h, i, o1, hg => by
    simp only [rwHeap] at h
    split at h
    · rename_i t0 h0
      split at h
      · rename_i j o hj ho
        split at h
        · rename_i o2 h2
          cases h
          rw [Tr.get_put] at hg
          by_cases e : i = j
          · subst e; rw [if_pos rfl] at hg; cases hg; exact ⟨b, o, hj, ho, h2⟩
          · rw [if_neg e] at hg; exact rwHeap_get h0 i o1 hg
        · cases h
      · cases h
    · cases h

noncomputable def rwFr (ρ : Rn) (live : Option (List Nat)) : IFrame → Option IFrame
  | ⟨fn, t, n, todo, ds, r, kd, rd⟩ => match rwIts ρ todo, rwDs ρ ds, rwRd ρ rd with
    | some todo', some ds', some rd' => some ⟨fn, match live with | some l => liveT (rwV ρ) t l | none => t.mapT (rwV ρ), n, todo', ds', r, kd, rd'⟩
    | _, _, _ => none
noncomputable def rwFrs (ρ : Rn) : List IFrame → Option (List IFrame)
  | [] => some []
  | f :: r => match rwFr ρ none f, rwFrs ρ r with
    | some g, some l => some (g :: l)
    | _, _ => none
noncomputable def rwC (N : Nat) (keep ids : List Nat) (live : List Nat) (c : Cfg) : Option Cfg :=
  match rwFr (rnOf N ids) (some live) c.fr, rwFrs (rnOf N ids) c.cs, rwHeap (rnOf N ids) c.H.m keep with
  | some fr, some cs, some m => some ⟨fr, cs, ⟨m, N + ids.length⟩⟩
  | _, _, _ => none

def ReachN (X : Ctx) (N : Nat) (c : Cfg) (Φ : Cfg → Prop) : Prop := ∀ (base : Env) (W0 : World), (∀ b T, base.mu0 b = some T → b < N) → IntrOk X base W0 → PlanOk X → ∀ (cs0 : List Frame) (μ : Inj) (fr : Frame) (cs : List Frame) (W : World), MRel X base W0 μ c fr cs W → ∃ c', Φ c' ∧ StepSim X base W0 cs0 c' (lone fr (cs ++ cs0) W)
section
variable {X : Ctx} {N : Nat}
theorem Reach.toN {c : Cfg} {Φ : Cfg → Prop} (h : Reach X c Φ) : ReachN X N c Φ := fun base W0 _ => h base W0
theorem ReachN.here {c : Cfg} {Φ : Cfg → Prop} (h : Φ c) : ReachN X N c Φ := (Reach.here h).toN
theorem ReachN.bind {c : Cfg} {Φ Ψ : Cfg → Prop} (h : ReachN X N c Φ) (h' : ∀ c', Φ c' → ReachN X N c' Ψ) : ReachN X N c Ψ := by
  intro base W0 hb hok hplan cs0 μ fr cs W hm
  obtain ⟨c1, p1, μ1, fr1, cs1, W1, s1, m1⟩ := h base W0 hb hok hplan cs0 μ fr cs W hm
  obtain ⟨c2, p2, μ2, fr2, cs2, W2, s2, m2⟩ := h' c1 p1 base W0 hb hok hplan cs0 μ1 fr1 cs1 W1 m1
  exact ⟨c2, p2, μ2, fr2, cs2, W2, s1.trans s2, m2⟩
theorem ReachN.mono {c : Cfg} {Φ Ψ : Cfg → Prop} (h : ReachN X N c Φ) (hi : ∀ c', Φ c' → Ψ c') : ReachN X N c Ψ := h.bind fun c' hc => .here (hi c' hc)

theorem rwIts_plain {ρ : Rn} {l m : List IItem} (h : rwIts ρ l = some m) : ∀ ops p k, l ≠ .dreg ops p :: k := by
  rintro ops p k rfl
  simp [rwIts, rwIt] at h
theorem rwFrs_rel {ρ : Rn} {μ ν : Inj} {H H' : IHeap} (hρ : ∀ b i T, ρ b = some i → μ b = some T → ν i = some T) {g : List Nat} {l l1 : List IFrame} {l' : List Frame} (h : rwFrs ρ l = some l1) (hr : FsRel X μ H g l l') : FsRel X ν H' [] l1 l' := by
  induction hr generalizing l1 with
  | nil => cases h; exact .nil
  | cons hf _ ih =>
    simp only [rwFrs] at h
    split at h
    · rename_i f1 m e1 e2
      cases h
      refine .cons (g := []) (gs := []) ?_ (ih e2)
      cases hf with
      | plain fn t n tm todo todo' ds ds' r kd rd rd' ht hi hd hr =>
        simp only [rwFr] at e1
        split at e1
        · rename_i a b c h1 h2 h3
          cases e1
          exact .plain _ _ _ _ _ _ _ _ _ _ _ _ (mapT_rel hρ ht) (rwIts_fwd hρ h1 hi) (rwDs_fwd hρ h2 hd) (rwRd_fwd hρ h3 hr)
        · cases e1
      | susp fn t n tm ops x o rest idx D G k k' ds ds' kd rd rd' ho hD hk hd hr =>
        simp only [rwFr] at e1
        split at e1
        · rename_i a b c h1 h2 h3
          exact absurd rfl (rwIts_plain h1 _ _ _)
        · cases e1
    · cases h

theorem rwC_sim {keep ids live : List Nat} {c c' : Cfg} {Φ : Cfg → Prop} (hl : (X.laid.all fun p => Nat.blt p.1 N) = true) (_hN : N ≤ c.H.next) (_hids : (ids.all fun b => Nat.blt b c.H.next) = true) (h : rwC N keep ids live c = some c') (hr : ReachN X N c' Φ) : ReachN X N c Φ := by
  intro base W0 hb hok hplan cs0 μ fr cs W hm
  suffices hs : ∃ μ', MRel X base W0 μ' c' fr cs W by
    obtain ⟨μ', hm'⟩ := hs
    exact hr base W0 hb hok hplan cs0 μ' fr cs W hm'
  obtain ⟨hH, hlaid, g, gs, hfr, hcs, hnd⟩ := hm
  unfold rwC at h
  split at h
  · rename_i fr1 cs1 m1 e1 e2 e3
    cases h
    let ν : Inj := fun i => (backOf N ids i).bind μ
    have hν : ∀ b i T, rnOf N ids b = some i → μ b = some T → ν i = some T := by
      intro b i T h1 h2
      show (backOf N ids i).bind μ = _
      rw [rn_back h1]; exact h2
    have hν' : ∀ b i T, rnOf N ids b = some i → ν i = some T → μ b = some T := by
      intro b i T h1 h2
      have h2 : (backOf N ids i).bind μ = some T := h2
      rw [rn_back h1] at h2; exact h2
    have hlow : ∀ i, i < N → ν i = μ i := by
      intro i hi
      show (backOf N ids i).bind μ = _
      unfold backOf
      rw [if_pos hi]; rfl
    refine ⟨ν, ⟨?_, ?_, ?_, ?_, ?_, hH.size, hH.below, hH.out, hH.os, ?_, ?_, hH.grow⟩, ?_, [], [], ?_, rwFrs_rel hν e2 hcs, by simp⟩
    · intro i o1 hi T hT
      obtain ⟨b, o, r1, r2, r3⟩ := rwHeap_get e3 i o1 hi
      obtain ⟨o', q1, q2⟩ := hH.obj b o r2 T (hν' _ _ _ r1 hT)
      exact ⟨o', q1, rwO_fwd hν r3 q2⟩
    · intro i o1 hi hro T hT hv
      obtain ⟨b, o, r1, r2, r3⟩ := rwHeap_get e3 i o1 hi
      exact hH.own b o r2 (by rw [← (rwO_ro r3).1]; exact hro) T (hν' _ _ _ r1 hT) (fun hw => hv ((rwO_void r3 T).2 hw))
    · intro i1 i2 o1 o2 h1 h2 T1 T2 t1 t2 v1 v2 hcc
      obtain ⟨b1, p1, r1, r2, r3⟩ := rwHeap_get e3 i1 o1 h1
      obtain ⟨b2, p2, s1, s2, s3⟩ := rwHeap_get e3 i2 o2 h2
      have := hH.inj b1 b2 p1 p2 r2 s2 T1 T2 (hν' _ _ _ r1 t1) (hν' _ _ _ s1 t2) (fun hw => v1 ((rwO_void r3 T1).2 hw)) (fun hw => v2 ((rwO_void s3 T2).2 hw)) hcc
      subst this
      rw [r1] at s1; cases s1; rfl
    · intro i hi
      have hi : N + ids.length ≤ i := hi
      have hnone : backOf N ids i = none := by
        unfold backOf
        rw [if_neg (by omega), List.getElem?_eq_none (by omega)]
      constructor
      · cases hg : (IHeap.mk m1 (N + ids.length)).get i with
        | none => rfl
        | some o1 =>
          obtain ⟨b, o, r1, _⟩ := rwHeap_get e3 i o1 hg
          rw [rn_back r1] at hnone; cases hnone
      · show (backOf N ids i).bind μ = none
        rw [hnone]; rfl
    · intro i T hT
      have hT : (backOf N ids i).bind μ = some T := hT
      cases hbk : backOf N ids i with
      | none => rw [hbk] at hT; cases hT
      | some b => rw [hbk] at hT; exact hH.bound b T hT
    · obtain ⟨φ, q⟩ := hH.abs
      refine ⟨fun i => match backOf N ids i with | some b => φ b | none => fun _ => False, ?_, ?_⟩
      · intro i a ro T hi hT
        obtain ⟨b, o, r1, r2, r3⟩ := rwHeap_get e3 i _ hi
        obtain ⟨this, hext⟩ := (rwO_ro r3).2.2 a ro rfl
        subst this
        simp only [rn_back r1]
        obtain ⟨w1, w2⟩ := q.rep b a ro T r2 (hν' _ _ _ r1 hT)
        exact ⟨w1.closed _ hext, w2⟩
      · intro i a ro T hi hT i2 o2 T2 hi2 hT2 hne hv2
        obtain ⟨b, o, r1, r2, r3⟩ := rwHeap_get e3 i _ hi
        obtain ⟨this, hext⟩ := (rwO_ro r3).2.2 a ro rfl
        subst this
        obtain ⟨b2, p2, s1, s2, s3⟩ := rwHeap_get e3 i2 _ hi2
        simp only [rn_back r1, rn_back s1]
        obtain ⟨u1, u2⟩ := q.far b a ro T r2 (hν' _ _ _ r1 hT) b2 p2 T2 s2 (hν' _ _ _ s1 hT2) (by rintro rfl; rw [r1] at s1; cases s1; exact hne rfl) (fun hw => hv2 ((rwO_void s3 T2).2 hw))
        exact ⟨u1, fun ea => u2 (by rw [← (rwO_ro s3).2.1]; exact ea)⟩
    · intro b T hT
      rw [hlow b (hb b T hT)]
      exact hH.le b T hT
    · intro gl hgl
      obtain ⟨T, h1, h2⟩ := hlaid gl hgl
      have : gl < N := by
        rw [List.any_eq_true] at hgl
        obtain ⟨p, hp, hpe⟩ := hgl
        have h3 := List.all_eq_true.1 hl p hp
        rw [Nat.eq_of_beq_eq_true hpe]
        exact Nat.le_of_ble_eq_true h3
      exact ⟨T, by rw [hlow gl this]; exact h1, h2⟩
    · generalize c.fr = cf at e1 hfr
      cases hfr with
      | plain fn t n tm todo todo' ds ds' r kd rd rd' ht hi hd hrr =>
        simp only [rwFr] at e1
        split at e1
        · rename_i a b c h1 h2 h3
          cases e1
          exact .plain _ _ _ _ _ _ _ _ _ _ _ _ (liveT_rel hν ht live) (rwIts_fwd hν h1 hi) (rwDs_fwd hν h2 hd) (rwRd_fwd hν h3 hrr)
        · cases e1
      | drawn fn t n tm ops plan idx D G k k' ds ds' kd rd rd' hD hk hd hrr =>
        simp only [rwFr] at e1
        split at e1
        · rename_i a b c h1 h2 h3
          exact absurd rfl (rwIts_plain h1 _ _ _)
        · cases e1
  · cases h
end
end Go.Ideal

namespace Go.Ideal

structure Stop where
  fn : FuncId
  depth : Nat
  len : Nat
  N : Nat
  olds : List Nat
  live : List Nat
def isHead : List IItem → Bool
  | .inLoop _ :: _ => true
  | .code (.loop _) :: _ => true
  | _ => false
def Stop.here (S : Stop) (c : Cfg) : Bool :=
  match c with
  | ⟨⟨fn, _, _, todo, _, r, _, _⟩, cs, _⟩ => !r && isHead todo && Nat.beq fn S.fn && Nat.beq cs.length S.depth && Nat.beq todo.length S.len

noncomputable def valsT (t : Tr Value) : List Value :=
  Tr.rec (motive := fun _ => List Value) [] (fun _ v _ l r => l ++ ((match v with | some x => [x] | none => []) ++ r)) t
noncomputable def refsObj : IObj → List Nat
  | .cells cs _ _ => cs.flatMap (refsN 4)
  | .loop q => q.defers :: (valsT q.tmps).flatMap (refsN 4)
  | .deferred (some l) => l.flatMap fun d => d.args.toList.flatMap (refsN 4)
  | .map es _ => es.flatMap fun e => refsN 4 e.key ++ refsN 4 e.val
  | _ => []
def refsIt : IItem → List Nat
  | .inRangeFunc l => [l]
  | .endRangeFunc l => [l]
  | _ => []
def refsD (d : Deferred) : List Nat := (match d.target with
  | .collected b => [b]
  | .fn _ ys => ys.toList.flatMap (refsN 4)
  | _ => []) ++ d.args.toList.flatMap (refsN 4)
noncomputable def refsFr (f : IFrame) : List Nat :=
  (match f.round with | some l => [l] | none => []) ++ f.defers.flatMap refsD ++ f.todo.flatMap refsIt ++ (valsT f.tmps).flatMap (refsN 4)
noncomputable def reachFrom (H : IHeap) (N : Nat) : Nat → List Nat → List Nat → List Nat
  | 0, _, seen => seen
  | f + 1, todo, seen => match todo with
    | [] => seen
    | b :: r => bif Nat.blt b N || seen.any (Nat.beq b) then reachFrom H N f r seen else
      match H.get b with
      | some o => reachFrom H N f (r ++ refsObj o) (seen ++ [b])
      | none => reachFrom H N f r seen
noncomputable def Stop.ids (S : Stop) (c : Cfg) : List Nat :=
  reachFrom c.H S.N 1000 ((S.live.flatMap fun i => refsN 4 (look c.fr.tmps i)) ++ (match c.fr.round with | some l => [l] | none => []) ++ c.fr.defers.flatMap refsD ++ c.fr.todo.flatMap refsIt ++ c.cs.flatMap refsFr ++ (S.olds.flatMap fun b => match c.H.get b with | some o => refsObj o | none => [])) []
noncomputable def Stop.can (X : Ctx) (S : Stop) (c : Cfg) : Option Cfg :=
  match stepI X c with
  | some c1 => bif Nat.ble S.N c1.H.next && (S.ids c1).all (fun b => Nat.blt b c1.H.next) then rwC S.N (S.olds ++ S.ids c1) (S.ids c1) S.live c1 else none
  | none => none

noncomputable def VCs (X : Ctx) (pf : Pf) (f : FuncId) (ids : List Nat) (S : Stop) (Q : Value → List (Option IObj) → Prop) (R : Cfg → Prop) (n : Nat) : Cfg → Prop :=
  Nat.rec (motive := fun _ => Cfg → Prop) (fun _ => False) (fun _ ih c => match doneF X f c with
    | some (v, H) => Q v ((ids ++ refsN 4 v).map H.get)
    | none => bif S.here c then (match S.can X c with
        | some c2 => R c2
        | none => False)
      else stepK X pf c ih) n
def EndsN (X : Ctx) (N : Nat) (f : FuncId) (Q : Value → IHeap → Prop) (c : Cfg) : Prop := ReachN X N c fun c' => ∃ v H, doneF X f c' = some (v, H) ∧ Q v H
section
variable {X : Ctx}
theorem EndsIn.toN {N : Nat} {f : FuncId} {Q : Value → IHeap → Prop} {c : Cfg} (h : EndsIn X f Q c) : EndsN X N f Q c := Reach.toN h
theorem EndsN.mono {N : Nat} {f : FuncId} {Q Q' : Value → IHeap → Prop} {c : Cfg} (h : EndsN X N f Q c) (hi : ∀ v H, Q v H → Q' v H) : EndsN X N f Q' c :=
  ReachN.mono h fun _ ⟨v, H, a, b⟩ => ⟨v, H, a, hi v H b⟩
theorem VCs_ok {pf : Pf} (hpf : PfOk X pf) {f : FuncId} {ids : List Nat} {S : Stop} (hl : (X.laid.all fun p => Nat.blt p.1 S.N) = true) {Q : Value → List (Option IObj) → Prop} {R : Cfg → Prop} {Q' : Value → IHeap → Prop}
    (hQ : ∀ v H, Q v ((ids ++ refsN 4 v).map H.get) → Q' v H) (hR : ∀ c, R c → EndsN X S.N f Q' c) : ∀ (n : Nat) (c : Cfg), VCs X pf f ids S Q R n c → EndsN X S.N f Q' c := by
  intro n
  induction n with
  | zero => intro c h; cases h
  | succ n ih =>
    intro c h
    have h : (match doneF X f c with
      | some (v, H) => Q v ((ids ++ refsN 4 v).map H.get)
      | none => bif S.here c then (match S.can X c with
          | some c2 => R c2
          | none => False)
        else stepK X pf c (VCs X pf f ids S Q R n)) := h
    split at h
    · rename_i v H e; exact ReachN.here ⟨v, H, e, hQ v H h⟩
    · cases hs : S.here c
      · simp only [hs, cond_false] at h
        exact ReachN.bind (Reach.toN (stepK_ok hpf h)) fun c' hc => ih c' hc
      · simp only [hs, cond_true] at h
        split at h
        · rename_i c2 hc
          unfold Stop.can at hc
          split at hc
          · rename_i c1 h1
            cases hb : (Nat.ble S.N c1.H.next && (S.ids c1).all (fun b => Nat.blt b c1.H.next))
            · simp only [hb, cond_false] at hc; cases hc
            · simp only [hb, cond_true] at hc
              simp only [Bool.and_eq_true] at hb
              have hr := rwC_sim (X := X) hl (Nat.le_of_ble_eq_true hb.1) hb.2 hc (hR c2 h)
              exact ReachN.bind (Reach.toN ((Sim.step h1).reach (Φ := fun c' => c' = c1) rfl)) fun c' e => e ▸ hr
          · cases hc
        · cases h
def EndsD (X : Ctx) (N : Nat) (D : Nat → Prop) (f : FuncId) (Q : Value → IHeap → Prop) (c : Cfg) : Prop :=
  ∀ (base : Env) (W0 : World), (∀ b T, base.mu0 b = some T → b < N) → (∀ b, D b → ∃ T, base.mu0 b = some T) → IntrOk X base W0 → PlanOk X → ∀ (cs0 : List Frame) (μ : Inj) (fr : Frame) (cs : List Frame) (W : World), MRel X base W0 μ c fr cs W →
    ∃ c', (∃ v H v2 H2, doneF X f c' = some (v, H) ∧ (∀ μ1 W1 v', VRel μ1 v v' → HRel base W0 μ1 H W1 → ∃ μ2, μ1.le μ2 ∧ HRel base W0 μ2 H2 W1 ∧ VRel μ2 v2 v') ∧ Q v2 H2) ∧ StepSim X base W0 cs0 c' (lone fr (cs ++ cs0) W)
theorem EndsN.toD {N : Nat} {D : Nat → Prop} {f : FuncId} {Q : Value → IHeap → Prop} {c : Cfg} (h : EndsN X N f Q c) : EndsD X N D f Q c := by
  intro base W0 hb _ hok hplan cs0 μ fr cs W hm
  obtain ⟨c', ⟨v, H, h1, h2⟩, h3⟩ := h base W0 hb hok hplan cs0 μ fr cs W hm
  exact ⟨c', ⟨v, H, v, H, h1, fun μ1 _ _ g h => ⟨μ1, Inj.le_refl _, h, g⟩, h2⟩, h3⟩
theorem EndsD.mono {N : Nat} {D : Nat → Prop} {f : FuncId} {Q Q' : Value → IHeap → Prop} {c : Cfg} (h : EndsD X N D f Q c) (hi : ∀ v H, Q v H → Q' v H) : EndsD X N D f Q' c := by
  intro base W0 hb hD hok hplan cs0 μ fr cs W hm
  obtain ⟨c', ⟨v, H, v2, H2, h1, h2, h3⟩, h4⟩ := h base W0 hb hD hok hplan cs0 μ fr cs W hm
  exact ⟨c', ⟨v, H, v2, H2, h1, h2, hi v2 H2 h3⟩, h4⟩
theorem EndsD.sub {N : Nat} {D D' : Nat → Prop} {f : FuncId} {Q : Value → IHeap → Prop} {c : Cfg} (h : EndsD X N D f Q c) (hs : ∀ b, D b → D' b) : EndsD X N D' f Q c :=
  fun base W0 hb hD => h base W0 hb fun b hb' => hD b (hs b hb')
end
end Go.Ideal

namespace Go.Ideal
def asRo : IObj → IObj
  | .cells cs e _ => .cells cs e true
  | .vec k l _ => .vec k l true
  | .abs a _ => .abs a true
  | o => o
theorem asRo_rel {μ : Inj} {T : Tgt} {o : IObj} {o' : Obj} (h : ORel μ T o o') : ORel μ T (asRo o) o' := by
  cases h with
  | cells cs e ro c t lo hi he hc hr hf => exact .cells T cs e true c t lo hi he hc hr (fun e => by cases e)
  | loop l a R ht hd => exact .loop T l a R ht hd
  | deferredNone => exact .deferredNone T
  | deferred l l' h => exact .deferred T l l' h
  | strIter s p hd => exact .strIter T s p hd
  | map es es' clock h => exact .map T es es' clock h
  | vec k l ro o h =>
    refine .vec T k l true o' ?_
    cases h with
    | cells cs e ro c t lo hi he hc hr hf => exact .cells T _ _ true c t lo hi he hc hr (fun e => by cases e)
  | vec0 k ro o he hr hk => exact .vec0 T k true o' he hr hk
  | abs a ro o => exact .abs T a true o'
theorem asRo_void {o : IObj} {T : Tgt} : (asRo o).void T ↔ o.void T := by
  cases o <;> exact Iff.rfl
theorem view_void {ρ : Ren} {o o1 : IObj} (h : renO ρ o = some o1 ∨ (o.ro = true ∧ renO ρ o = some (asRo o1))) (T : Tgt) : o1.void T ↔ o.void T := by
  rcases h with h | ⟨_, h⟩
  · exact renO_void h T
  · exact asRo_void.symm.trans (renO_void h T)
theorem abs_ren {ρ : Ren} {a : Abs} {ro : Bool} {o1 : IObj} (h : renO ρ (.abs a ro) = some o1) : o1 = .abs a ro ∧ a.ext = [] := by
  simp only [renO] at h
  cases hx : a.shutB
  · simp [hx] at h
  · simp only [hx, cond_true, Option.some.injEq] at h
    exact ⟨h.symm, Abs.shutB_eq hx⟩
theorem abs_view {ρ : Ren} {a : Abs} {ro : Bool} {o1 : IObj} (h : renO ρ (.abs a ro) = some o1 ∨ ((IObj.abs a ro).ro = true ∧ renO ρ (.abs a ro) = some (asRo o1))) : (∃ ro1, o1 = .abs a ro1) ∧ a.ext = [] := by
  rcases h with h | ⟨_, h⟩
  · obtain ⟨rfl, hx⟩ := abs_ren h
    exact ⟨⟨ro, rfl⟩, hx⟩
  · obtain ⟨h, hx⟩ := abs_ren h
    cases o1 <;> simp only [asRo, reduceCtorEq] at h
    cases h
    exact ⟨⟨_, rfl⟩, hx⟩
theorem isAbs_view {ρ : Ren} {o o1 : IObj} (h : renO ρ o = some o1 ∨ (o.ro = true ∧ renO ρ o = some (asRo o1))) : o1.isAbs = o.isAbs := by
  rcases h with h | ⟨_, h⟩
  · exact (renO_ro h).2.1
  · have := (renO_ro h).2.1
    rw [← this]
    cases o1 <;> rfl
open Classical in
theorem lift3 {X : Ctx} {base : Env} {W0 : World} {μ : Inj} {H : IHeap} {W : World}
    (hok : ∀ b W0, LaidW X b W0 → IntrOk X b W0) (hplan : PlanOk X) (hW : LaidW X base W0) (hH : HRel base W0 μ H W) (hlaid : LaidRel X μ)
    {f : FuncId} {n : Nat} {code : Code} (he : entry X.P f = some (n, code)) {Hc H' : IHeap} {argsc args : List Value} {args' : Array Value} {ρ : Ren} {v : Value}
    (hn : argsc.length ≤ n) (hargs : renL (renV ρ) argsc = some args) (ha : LRel μ args args'.toList)
    (hlt : ∀ b i, ρ b = some i → b < Hc.next) (hdom : ∀ b i, ρ b = some i → ∃ T, μ i = some T) (hinj0 : ∀ b1 b2 i, ρ b1 = some i → ρ b2 = some i → b1 = b2) (hnext : H.next ≤ H'.next)
    (hlr : ∀ g, X.laid.any (fun p => Nat.beq g p.1) = true → ρ g = some g)
    (hobj : ∀ b o, Hc.get b = some o → ∃ i o1, ρ b = some i ∧ H.get i = some o1 ∧ (renO ρ o = some o1 ∨ (o.ro = true ∧ renO ρ o = some (asRo o1))))
    (k1 : ∀ i, i < H.next → (∀ b o, Hc.get b = some o → o.ro = false → ρ b ≠ some i) → H'.get i = H.get i)
    (k3 : ∀ i, H'.next ≤ i → H'.get i = none)
    (hrun : EndsD X Hc.next (fun b => ∃ i, ρ b = some i) f (fun vc Hf => LiftEnd Hc H H' ρ v vc Hf) (startC f (fillTmps 0 argsc .leaf) n code Hc)) :
    Calls X.P f args' W fun e W' => ∃ v' μ', e = .returned v' ∧ HRel base W0 μ' H' W' ∧ VRel μ' v v' ∧ Evolve μ H μ' H' := by
  obtain ⟨φ, q⟩ := hH.abs
  have hex : ∀ b o, Hc.get b = some o → o.ro = false → ∃ i o1, ρ b = some i ∧ H.get i = some o1 ∧ renO ρ o = some o1 := by
    intro b o hb hr
    obtain ⟨i, o1, g1, g2, g3⟩ := hobj b o hb
    rcases g3 with g3 | ⟨g3, _⟩
    · exact ⟨i, o1, g1, g2, g3⟩
    · rw [hr] at g3; cases g3
  have hiN : ∀ b i, ρ b = some i → i < H.next := fun b i hb => let ⟨_, hT⟩ := hdom b i hb; hH.lt_map hT
  have hfree : ∀ b, Hc.next ≤ b → Hc.get b = none := by
    intro b hb
    cases hg : Hc.get b with
    | none => rfl
    | some o => obtain ⟨i, _, h1, _⟩ := hobj b o hg; have := hlt b i h1; omega
  let μc : Inj := fun b => (ρ b).bind μ
  have hμc : ∀ b i T, ρ b = some i → μ i = some T → μc b = some T := fun b i T h1 h2 => by show (ρ b).bind μ = _; rw [h1]; exact h2
  have hμc' : ∀ b T, μc b = some T → ∃ i, ρ b = some i ∧ μ i = some T := by
    intro b T h
    have h : (ρ b).bind μ = some T := h
    cases hb : ρ b with
    | none => rw [hb] at h; cases h
    | some i => rw [hb] at h; exact ⟨i, rfl, h⟩
  have hbw : ∀ b i T, ρ b = some i → μ i = some T → μc b = some T := hμc
  let Own : Nat → Prop := fun i => (∃ b o j T, Hc.get b = some o ∧ o.ro = false ∧ ρ b = some j ∧ μ j = some T ∧ ¬ o.void T ∧ i = T.c) ∨ (∃ b a j, Hc.get b = some (.abs a false) ∧ ρ b = some j ∧ φ j i)
  let Ec : Env := { base with K := fun i => i < W.heap.size ∧ ¬ Own i, mu0 := μc }
  have hownK : ∀ i, Own i → ¬ base.K i := by
    rintro i (⟨b, o, j, T, h1, h2, h3, h4, hv, rfl⟩ | ⟨b, a, j, h1, h2, h3⟩) hk
    · obtain ⟨i2, o1, g1, g2, g3⟩ := hex b o h1 h2
      rw [h3] at g1; cases g1
      exact hH.own _ o1 g2 (by rw [(renO_ro g3).1]; exact h2) T h4 (fun hw => hv ((renO_void g3 T).1 hw)) hk
    · obtain ⟨i2, o1, g1, g2, g3⟩ := hex b _ h1 rfl
      rw [h2] at g1; cases g1
      obtain ⟨rfl, _⟩ := abs_ren g3
      obtain ⟨T, hT⟩ := hdom _ _ h2
      exact (q.rep _ a false T g2 hT).2 rfl i h3 hk
  have hHc : HRel Ec W μc Hc W := by
    refine ⟨?_, ?_, ?_, ?_, ?_, fun i hi => hi.1, fun _ _ => rfl, rfl, rfl, ?_, Inj.le_refl _, Nat.le_refl _⟩
    · intro b o hb T hT
      obtain ⟨i, o1, g1, g2, g3⟩ := hobj b o hb
      obtain ⟨i2, e1, e2⟩ := hμc' b T hT
      rw [g1] at e1; cases e1
      obtain ⟨o', r1, r2⟩ := hH.obj _ o1 g2 T e2
      rcases g3 with g3 | ⟨_, g3⟩
      · exact ⟨o', r1, renO_bwd hbw g3 r2⟩
      · exact ⟨o', r1, renO_bwd hbw g3 (asRo_rel r2)⟩
    · intro b o hb hr T hT hv hk
      obtain ⟨i2, e1, e2⟩ := hμc' b T hT
      exact hk.2 (.inl ⟨b, o, i2, T, hb, hr, e1, e2, hv, rfl⟩)
    · intro b1 b2 o1 o2 h1 h2 T1 T2 m1 m2 v1 v2 hc
      obtain ⟨i1, e1, e2⟩ := hμc' b1 T1 m1
      obtain ⟨i2, e3, e4⟩ := hμc' b2 T2 m2
      obtain ⟨j1, p1, g1, g2, w1⟩ := hobj b1 o1 h1
      obtain ⟨j2, p2, g3, g4, w2⟩ := hobj b2 o2 h2
      rw [e1] at g1; cases g1
      rw [e3] at g3; cases g3
      have := hH.inj _ _ _ _ g2 g4 T1 T2 e2 e4 (fun hw => v1 ((view_void w1 T1).1 hw)) (fun hw => v2 ((view_void w2 T2).1 hw)) hc
      subst this
      exact hinj0 b1 b2 _ e1 e3
    · intro b hb
      refine ⟨hfree b hb, ?_⟩
      cases hm : μc b with
      | none => rfl
      | some T => obtain ⟨i, e1, _⟩ := hμc' b T hm; have := hlt _ _ e1; omega
    · intro b T hT
      obtain ⟨i, _, e2⟩ := hμc' b T hT
      exact hH.bound i T e2
    · refine ⟨fun b => match ρ b with | some j => φ j | none => fun _ => False, ?_, ?_⟩
      · intro b a ro T hb hT
        obtain ⟨i, o1, g1, g2, g3⟩ := hobj b _ hb
        obtain ⟨i2, e1, e2⟩ := hμc' b T hT
        rw [g1] at e1; cases e1
        obtain ⟨⟨ro1, ho1⟩, hext⟩ := abs_view g3
        subst ho1
        obtain ⟨r1, _⟩ := q.rep _ a ro1 T g2 e2
        simp only [g1]
        refine ⟨r1.closed _ hext, fun hro i hi hk => hk.2 (.inr ⟨b, a, _, by rw [← hro]; exact hb, g1, hi⟩)⟩
      · intro b a ro T hb hT b2 o2 T2 hb2 hT2 hne hv2
        obtain ⟨i, o1, g1, g2, g3⟩ := hobj b _ hb
        obtain ⟨i2, e1, e2⟩ := hμc' b T hT
        rw [g1] at e1; cases e1
        obtain ⟨⟨ro1, ho1⟩, hext⟩ := abs_view g3
        subst ho1
        obtain ⟨j, p1, g4, g5, g6⟩ := hobj b2 _ hb2
        obtain ⟨j2, e3, e4⟩ := hμc' b2 T2 hT2
        rw [g4] at e3; cases e3
        have hne2 : j ≠ i := by
          rintro rfl
          exact hne (hinj0 b2 b _ g4 g1)
        simp only [g1, g4]
        obtain ⟨r1, r2⟩ := q.far _ a ro1 T g2 e2 _ p1 T2 g5 e4 hne2 (fun hw => hv2 ((view_void g6 T2).1 hw))
        exact ⟨r1, fun ea => r2 (by rw [isAbs_view g6]; exact ea)⟩
  have hlc : LaidRel X μc := by
    intro g hg
    obtain ⟨T, h1, h2⟩ := hlaid g hg
    exact ⟨T, hμc g g T (hlr g hg) h1, h2⟩
  have hWc : LaidW X Ec W := by
    refine ⟨hW.1, fun p hp => ?_⟩
    obtain ⟨h1, h2, a, t, fz, h3, h4⟩ := hW.2 p hp
    exact ⟨⟨hH.size _ h1, fun ho => hownK _ ho h1⟩, h2, a, t, fz, by rw [hH.below _ h1]; exact h3, h4⟩
  have hac : LRel μc argsc args'.toList := renL_bwd (ren_bwd hbw 6) _ _ _ hargs ha
  intro cs
  obtain ⟨c', ⟨vc0, Hf0, vc, Hf, hd, hshut, ρ', hinj, hold, hnew, k2, hv⟩, μ0, fr1, cs1, W1, s1, m1⟩ := hrun Ec W (fun b T hT => by obtain ⟨i, h1, _⟩ := hμc' b T hT; exact hlt _ _ h1) (fun b ⟨i, hi⟩ => by obtain ⟨T, hT⟩ := hdom b i hi; exact ⟨T, hμc b i T hi hT⟩) (hok Ec W hWc) hplan cs μc _ [] W (start_rel hHc hlc he hac hn)
  obtain ⟨rfl, hf, v', h1, h2o, h3o⟩ := done_rel m1 hd
  obtain ⟨μ1, _, h2, h3⟩ := hshut _ _ _ h3o h2o
  have hs' : Steps X.P (lone (Frame.enter X.P f args' .normal) cs W) (lone fr1 cs W1) := by simpa using s1
  refine ⟨.returned v', W1, fr1, ?_, hs', hf, h1⟩
  have hle1 : μc.le μ1 := h2.le
  let μ' : Inj := fun i => if i < H.next then μ i else if hx : ∃ b, ρ' b = some i ∧ Hc.next ≤ b then μ1 hx.choose else none
  have hμold : ∀ i, i < H.next → μ' i = μ i := fun i hi => by show (if _ then _ else _) = _; rw [if_pos hi]
  have hμnew : ∀ b i, ρ' b = some i → Hc.next ≤ b → μ' i = μ1 b := by
    intro b i hb hge
    have hi := hnew b i hb hge
    show (if i < H.next then μ i else if hx : ∃ b, ρ' b = some i ∧ Hc.next ≤ b then μ1 hx.choose else none) = _
    rw [if_neg (by omega)]
    have hx : ∃ b, ρ' b = some i ∧ Hc.next ≤ b := ⟨b, hb, hge⟩
    rw [dif_pos hx, hinj _ b i hx.choose_spec.1 hb]
  have hμno : ∀ i, H.next ≤ i → (¬ ∃ b, ρ' b = some i ∧ Hc.next ≤ b) → μ' i = none := by
    intro i hi hx
    show (if i < H.next then μ i else if hx : ∃ b, ρ' b = some i ∧ Hc.next ≤ b then μ1 hx.choose else none) = _
    rw [if_neg (by omega), dif_neg hx]
  have hle : μ.le μ' := fun i T hT => by rw [hμold i (hH.lt_map hT)]; exact hT
  have hfw : ∀ b i T, ρ' b = some i → μ1 b = some T → μ' i = some T := by
    intro b i T hb hT
    rcases Nat.lt_or_ge b Hc.next with hlt' | hge
    · rw [hold b hlt'] at hb
      obtain ⟨T0, hT0⟩ := hdom b i hb
      have := hle1 b T0 (hμc b i T0 hb hT0)
      rw [hT] at this; cases this
      exact hle i T hT0
    · rw [hμnew b i hb hge]; exact hT
  -- where an object of the new heap comes from
  have hsrc : ∀ i o T, H'.get i = some o → μ' i = some T → (∃ b o0, ρ' b = some i ∧ Hf.get b = some o0 ∧ renO ρ' o0 = some o ∧ o0.ro = false ∧ μ1 b = some T) ∨
      (i < H.next ∧ H.get i = some o ∧ μ i = some T ∧ ∀ b o, Hc.get b = some o → o.ro = false → ρ b ≠ some i) := by
    intro i o T hi hT
    by_cases hc : H.next ≤ i ∨ ∃ b o0, Hc.get b = some o0 ∧ o0.ro = false ∧ ρ b = some i
    · obtain ⟨b, o0, g1, g2, g3, g4⟩ := k2 i o hi hc
      refine .inl ⟨b, o0, g1, g2, g3, g4, ?_⟩
      rcases Nat.lt_or_ge b Hc.next with hlt' | hge
      · have g1' := g1
        rw [hold b hlt'] at g1'
        have hiN' := hiN b i g1'
        rw [hμold i hiN'] at hT
        exact hle1 b T (hμc b i T g1' hT)
      · rw [← hμnew b i g1 hge]; exact hT
    · have hi1 : i < H.next := by
        rcases Nat.lt_or_ge i H.next with hh | hh
        · exact hh
        · exact absurd (.inl hh) hc
      have hnb : ∀ b o, Hc.get b = some o → o.ro = false → ρ b ≠ some i := fun b o g1 g2 g3 => hc (.inr ⟨b, o, g1, g2, g3⟩)
      rw [k1 i hi1 hnb] at hi
      rw [hμold i hi1] at hT
      exact .inr ⟨hi1, hi, hT, hnb⟩
  have hkept : ∀ i o T, i < H.next → H.get i = some o → μ i = some T → ¬ o.void T → (∀ b o, Hc.get b = some o → o.ro = false → ρ b ≠ some i) → Ec.K T.c := by
    intro i o T hi ho hT hvo hnb
    refine ⟨hH.bound i T hT, ?_⟩
    rintro (⟨b, o2, j, T2, g1, g2, g3, g4, gv, g5⟩ | ⟨b, a, j, g1, g2, g3⟩)
    · obtain ⟨j2, p, e1, e2, e3⟩ := hobj b o2 g1
      rw [g3] at e1; cases e1
      have := hH.inj i j _ _ ho e2 T T2 hT g4 hvo (fun hw => gv ((view_void e3 T2).1 hw)) g5
      subst this
      exact hnb b o2 g1 g2 g3
    · obtain ⟨j2, p, e1, e2, e3⟩ := hex b _ g1 rfl
      rw [g2] at e1; cases e1
      obtain ⟨rfl, _⟩ := abs_ren e3
      obtain ⟨T2, hT2⟩ := hdom _ _ g2
      have hne : i ≠ j := by rintro rfl; exact hnb b _ g1 rfl g2
      exact (q.far j a false T2 e2 hT2 i o T ho hT hne hvo).1 g3
  have hnotK : ∀ b o T, Hf.get b = some o → o.ro = false → μ1 b = some T → ¬ o.void T → ¬ base.K T.c := by
    intro b o T g1 g2 g3 gv hk
    have := h2.own b o g1 g2 T g3 gv
    refine this ⟨hH.size _ hk, fun ho => hownK _ ho hk⟩
  obtain ⟨φ1, q1⟩ := h2.abs
  have hphiK : ∀ i a ro T, H.get i = some (.abs a ro) → μ i = some T → (∀ b o, Hc.get b = some o → o.ro = false → ρ b ≠ some i) → ∀ j, φ i j → Ec.K j := by
    intro i a ro T ho hT hnb j hj
    have hr := (q.rep i a ro T ho hT).1
    refine ⟨(RepG.bnd _ _ _ _ hr).2 j hj, ?_⟩
    rintro (⟨b, o2, j2, T2, g1, g2, g3, g4, gv, rfl⟩ | ⟨b, a2, j2, g1, g2, g3⟩)
    · obtain ⟨j3, p, e1, e2, e3⟩ := hobj b o2 g1
      rw [g3] at e1; cases e1
      have hne : j2 ≠ i := by rintro rfl; exact hnb b o2 g1 g2 g3
      exact (q.far i a ro T ho hT j2 p T2 e2 g4 hne (fun hw => gv ((view_void e3 T2).1 hw))).1 hj
    · obtain ⟨j3, p, e1, e2, e3⟩ := hex b _ g1 rfl
      rw [g2] at e1; cases e1
      obtain ⟨rfl, _⟩ := abs_ren e3
      obtain ⟨T2, hT2⟩ := hdom _ _ g2
      have hne : j2 ≠ i := by rintro rfl; exact hnb b _ g1 rfl g2
      exact (q.far i a ro T ho hT j2 _ T2 e2 hT2 hne id).2 rfl j hj g3
  refine ⟨v', μ', rfl, ⟨?_, ?_, ?_, ?_, ?_, ?_, ?_, ?_, ?_, ?_, ?_, ?_⟩, ren_fwd hfw 6 _ _ _ hv h3, hle, hnext, ?_⟩
  · intro i o hi T hT
    rcases hsrc i o T hi hT with ⟨b, o0, g1, g2, g3, g4, g5⟩ | ⟨g1, g2, g3, g4⟩
    · obtain ⟨o', r1, r2⟩ := h2.obj b o0 g2 T g5
      exact ⟨o', r1, renO_fwd hfw g3 r2⟩
    · obtain ⟨o', r1, r2⟩ := ORel.keep (W' := W1) (hH.obj i o g2 T g3) h2.grow (fun hv => h2.below _ (hkept i o T g1 g2 g3 hv g4))
      exact ⟨o', r1, r2.mono hle⟩
  · intro i o hi hr T hT hv
    rcases hsrc i o T hi hT with ⟨b, o0, g1, g2, g3, g4, g5⟩ | ⟨g1, g2, g3, g4⟩
    · exact hnotK b o0 T g2 g4 g5 (fun hw => hv ((renO_void g3 T).2 hw))
    · exact hH.own i o g2 hr T g3 hv
  · intro i1 i2 o1 o2 e1 e2 T1 T2 m1 m2 v1 v2 hc
    rcases hsrc i1 o1 T1 e1 m1 with ⟨b1, p1, g1, g2, g3, g4, g5⟩ | ⟨g1, g2, g3, g4⟩ <;> rcases hsrc i2 o2 T2 e2 m2 with ⟨b2, p2, f1, f2, f3, f4, f5⟩ | ⟨f1, f2, f3, f4⟩
    · have := h2.inj b1 b2 _ _ g2 f2 T1 T2 g5 f5 (fun hw => v1 ((renO_void g3 T1).2 hw)) (fun hw => v2 ((renO_void f3 T2).2 hw)) hc
      subst this
      rw [g1] at f1; cases f1; rfl
    · exact absurd (hc ▸ hkept i2 o2 T2 f1 f2 f3 v2 f4) (h2.own b1 p1 g2 g4 T1 g5 (fun hw => v1 ((renO_void g3 T1).2 hw)))
    · exact absurd (hc ▸ hkept i1 o1 T1 g1 g2 g3 v1 g4) (h2.own b2 p2 f2 f4 T2 f5 (fun hw => v2 ((renO_void f3 T2).2 hw)))
    · exact hH.inj i1 i2 _ _ g2 f2 T1 T2 g3 f3 v1 v2 hc
  · intro i hi
    refine ⟨k3 i hi, hμno i (by omega) ?_⟩
    rintro ⟨b, g1, g2⟩
    have := (hnew b i g1 g2).2
    omega
  · intro i T hT
    rcases Nat.lt_or_ge i H.next with hh | hh
    · rw [hμold i hh] at hT
      have := hH.bound i T hT
      have := h2.grow
      omega
    · by_cases hx : ∃ b, ρ' b = some i ∧ Hc.next ≤ b
      · obtain ⟨b, g1, g2⟩ := hx
        rw [hμnew b i g1 g2] at hT
        exact h2.bound b T hT
      · rw [hμno i hh hx] at hT; cases hT
  · intro i hi; have := hH.size i hi; have := h2.grow; omega
  · intro i hi
    rw [h2.below i ⟨hH.size i hi, fun ho => hownK i ho hi⟩]
    exact hH.below i hi
  · rw [h2.out]; exact hH.out
  · rw [h2.os]; exact hH.os
  · let C : Nat → Nat → Prop := fun b i => ρ' b = some i ∧ (H.next ≤ i ∨ ∃ o1, Hc.get b = some o1 ∧ o1.ro = false)
    let φ' : Nat → Nat → Prop := fun i j => (∃ b, C b i ∧ φ1 b j) ∨ ((¬ ∃ b, C b i) ∧ φ i j)
    have hCin : ∀ b i, C b i → φ' i = φ1 b := by
      intro b i hb
      funext j
      refine propext ⟨?_, fun hj => .inl ⟨b, hb, hj⟩⟩
      rintro (⟨b2, g1, g2⟩ | ⟨g1, _⟩)
      · rw [hinj b b2 i hb.1 g1.1]; exact g2
      · exact absurd ⟨b, hb⟩ g1
    have hCout : ∀ i, i < H.next → (∀ b o, Hc.get b = some o → o.ro = false → ρ b ≠ some i) → φ' i = φ i := by
      intro i hi hnb
      have hno : ¬ ∃ b, C b i := by
        rintro ⟨b, g1, g2 | ⟨o1, g2, g3⟩⟩
        · omega
        · obtain ⟨i2, _, e1, _⟩ := hobj b o1 g2
          rw [hold b (hlt _ _ e1)] at g1
          exact hnb b o1 g2 g3 g1
      funext j
      refine propext ⟨?_, fun hj => .inr ⟨hno, hj⟩⟩
      rintro (⟨b2, g1, g2⟩ | ⟨_, g2⟩)
      · exact absurd ⟨b2, g1⟩ hno
      · exact g2
    have hsrc2 : ∀ i o T, H'.get i = some o → μ' i = some T → (∃ b o0, C b i ∧ Hf.get b = some o0 ∧ renO ρ' o0 = some o ∧ o0.ro = false ∧ μ1 b = some T) ∨
        (i < H.next ∧ H.get i = some o ∧ μ i = some T ∧ ∀ b o, Hc.get b = some o → o.ro = false → ρ b ≠ some i) := by
      intro i o T hi hT
      rcases hsrc i o T hi hT with ⟨b, o0, g1, g2, g3, g4, g5⟩ | h
      · by_cases hc : H.next ≤ i ∨ ∃ b o0, Hc.get b = some o0 ∧ o0.ro = false ∧ ρ b = some i
        · refine .inl ⟨b, o0, ⟨g1, ?_⟩, g2, g3, g4, g5⟩
          rcases hc with hc | ⟨b2, o2, e1, e2, e3⟩
          · exact .inl hc
          · have : b = b2 := hinj b b2 i g1 (by rw [hold b2 (hlt _ _ e3)]; exact e3)
            subst this
            exact .inr ⟨o2, e1, e2⟩
        · have hi1 : i < H.next := by
            rcases Nat.lt_or_ge i H.next with hh | hh
            · exact hh
            · exact absurd (.inl hh) hc
          have hnb : ∀ b o, Hc.get b = some o → o.ro = false → ρ b ≠ some i := fun b o g1 g2 g3 => hc (.inr ⟨b, o, g1, g2, g3⟩)
          rw [k1 i hi1 hnb] at hi
          rw [hμold i hi1] at hT
          exact .inr ⟨hi1, hi, hT, hnb⟩
      · exact .inr h
    refine ⟨φ', ?_, ?_⟩
    · intro i a ro T hi hT
      rcases hsrc2 i _ T hi hT with ⟨b, o0, g1, g2, g3, g4, g5⟩ | ⟨g1, g2, g3, g4⟩
      · obtain ⟨e0, hext⟩ := (renO_ro g3).2.2 a ro rfl
        subst e0
        obtain ⟨r1, r2⟩ := q1.rep b a ro T g2 g5
        rw [hCin b i g1]
        exact ⟨r1.closed _ hext, fun hro j hj hk => r2 hro j hj ⟨hH.size j hk, fun ho => hownK j ho hk⟩⟩
      · obtain ⟨r1, r2⟩ := q.rep i a ro T g2 g3
        rw [hCout i g1 g4]
        exact ⟨(RepG.loc _ _ _ _ _ h2.grow r1 (fun j hj => h2.below j (hphiK i a ro T g2 g3 g4 j hj))).mono hle, r2⟩
    · intro i a ro T hi hT i2 o2 T2 hi2 hT2 hne hv2
      rcases hsrc2 i _ T hi hT with ⟨b, o0, g1, g2, g3, g4, g5⟩ | ⟨g1, g2, g3, g4⟩ <;> rcases hsrc2 i2 _ T2 hi2 hT2 with ⟨b2, p0, f1, f2, f3, f4, f5⟩ | ⟨f1, f2, f3, f4⟩
      · obtain ⟨e0, hext⟩ := (renO_ro g3).2.2 a ro rfl
        subst e0
        rw [hCin b i g1, hCin b2 i2 f1]
        have hbn : b2 ≠ b := by
          rintro rfl
          have := g1.1
          rw [f1.1] at this
          cases this; exact hne rfl
        obtain ⟨r1, r2⟩ := q1.far b a ro T g2 g5 b2 p0 T2 f2 f5 hbn (fun hw => hv2 ((renO_void f3 T2).2 hw))
        exact ⟨r1, fun ea => r2 (by rw [← (renO_ro f3).2.1]; exact ea)⟩
      · obtain ⟨e0, hext⟩ := (renO_ro g3).2.2 a ro rfl
        subst e0
        rw [hCin b i g1, hCout i2 f1 f4]
        have hnk := (q1.rep b a ro T g2 g5).2 g4
        refine ⟨fun hc => hnk _ hc (hkept i2 o2 T2 f1 f2 f3 hv2 f4), fun ea j hj hj2 => ?_⟩
        obtain ⟨a2, ro2, rfl⟩ := isAbs_eq ea
        exact hnk _ hj (hphiK i2 a2 ro2 T2 f2 f3 f4 j hj2)
      · rw [hCout i g1 g4, hCin b2 i2 f1]
        refine ⟨fun hc => h2.own b2 p0 f2 f4 T2 f5 (fun hw => hv2 ((renO_void f3 T2).2 hw)) (hphiK i a ro T g2 g3 g4 _ hc), fun ea j hj hj2 => ?_⟩
        have ea0 : p0.isAbs = true := by rw [← (renO_ro f3).2.1]; exact ea
        obtain ⟨a2, ro2, rfl⟩ := isAbs_eq ea0
        exact (q1.rep b2 a2 ro2 T2 f2 f5).2 f4 j hj2 (hphiK i a ro T g2 g3 g4 _ hj)
      · rw [hCout i g1 g4, hCout i2 f1 f4]
        exact q.far i a ro T g2 g3 i2 o2 T2 f2 f3 hne hv2
  · exact Inj.le_trans hH.le hle
  · have := hH.grow; have := h2.grow; omega
  · intro i hi hm
    refine ⟨by rw [hμold i hi]; exact hm, k1 i hi ?_⟩
    intro b o g1 g2 g3
    obtain ⟨T, hT⟩ := hdom b i g3
    rw [hm] at hT; cases hT
end Go.Ideal

namespace Go.Ideal

def baseX (P : Program) (laid : List (Nat × List Value)) : Ctx := ⟨P, laid, fun _ => none, planOf P⟩
def IOk (P : Program) (laid : List (Nat × List Value)) (f : FuncId) (F : IFun) : Prop :=
  (∃ n c, entry P f = some (n, c)) ∧ ∀ base W0 μ H W (args : List Value) (args' : Array Value) v H', LaidW (baseX P laid) base W0 → HRel base W0 μ H W → LaidRel (baseX P laid) μ → LRel μ args args'.toList → F args H = some (v, H') →
    Calls P f args' W fun e W' => ∃ v' μ', e = .returned v' ∧ HRel base W0 μ' H' W' ∧ VRel μ' v v' ∧ Evolve μ H μ' H'
noncomputable def lookI : List (FuncId × IFun) → FuncId → Option IFun
  | [], _ => none
  | p :: r, f => bif Nat.beq p.1 f then some p.2 else lookI r f
noncomputable def ctxI (P : Program) (laid : List (Nat × List Value)) (fs : List (FuncId × IFun)) : Ctx := ⟨P, laid, lookI fs, planOf P⟩
theorem lookI_mem : ∀ {fs : List (FuncId × IFun)} {f : FuncId} {F : IFun}, lookI fs f = some F → (f, F) ∈ fs := by
  intro fs
  induction fs with
  | nil => intro f F h; cases h
  | cons p r ih =>
    intro f F h
    unfold lookI at h
    cases hb : Nat.beq p.1 f
    · rw [hb] at h; exact List.mem_cons_of_mem _ (ih h)
    · rw [hb] at h; cases h
      have := Nat.eq_of_beq_eq_true hb
      rw [← this]; simp
def AllOk (P : Program) (laid : List (Nat × List Value)) (fs : List (FuncId × IFun)) : Prop := ∀ p ∈ fs, IOk P laid p.1 p.2
theorem AllOk.nil (P : Program) (laid : List (Nat × List Value)) : AllOk P laid [] := fun _ h => by cases h
theorem AllOk.cons {P : Program} {laid : List (Nat × List Value)} {f : FuncId} {F : IFun} {fs : List (FuncId × IFun)} (h : IOk P laid f F) (h' : AllOk P laid fs) : AllOk P laid ((f, F) :: fs) := by
  intro p hp
  rcases List.mem_cons.1 hp with rfl | hp
  · exact h
  · exact h' p hp
theorem AllOk.intr {P : Program} {laid : List (Nat × List Value)} {fs : List (FuncId × IFun)} (h : AllOk P laid fs) (base : Env) (W0 : World) (hW : LaidW (ctxI P laid fs) base W0) : IntrOk (ctxI P laid fs) base W0 := by
  intro f F hf
  have hp := h _ (lookI_mem hf)
  exact ⟨hp.1, fun μ H W args args' v H' hH hl ha hF => hp.2 base W0 μ H W args args' v H' hW hH hl ha hF⟩

theorem iok_known {P : Program} {laid : List (Nat × List Value)} {k : Known} (h : KnownOk P laid k) : IOk P laid k.f (knownF k) := by
  refine ⟨h.1, ?_⟩
  intro base W0 μ H W args args' v H' hW hH hl ha hF
  unfold knownF at hF
  cases hb : sameL (sameN 8) args k.args
  · rw [hb] at hF; cases hF
  · rw [hb] at hF; cases hF
    obtain rfl := sameL_eq (sameN_eq 8) _ _ hb
    exact h.2 base W0 μ H W args' hW hH ha
end Go.Ideal

namespace Go.Ideal

inductive AV where
  | flat (v : Value)
  | row (k : EK) (l : List (EK.C k))
def argsAt : Nat → List AV → List Value
  | _, [] => []
  | n, .flat v :: r => v :: argsAt n r
  | n, .row _ l :: r => .slice (some ⟨n, 0, some 0⟩) l.length capU :: argsAt (n + 1) r
noncomputable def putRows (H : IHeap) (ro : Bool) : List (Σ k : EK, List (EK.C k)) → IHeap
  | [] => H
  | ⟨k, l⟩ :: r => putRows (H.alloc (.vec k l ro)) ro r
inductive RV where
  | one (a : AV)
  | many (l : List AV)
inductive RT where
  | fail
  | ret (r : RV)
  | test (c : Bool) (a b : RT)
def RT.run : RT → Option RV
  | .fail => none
  | .ret r => some r
  | .test c a b => bif c then a.run else b.run
def RT.cps : RT → (RV → Prop) → Prop
  | .fail, _ => False
  | .ret r, K => K r
  | .test c a b, K => bif c then a.cps K else b.cps K
theorem RT.cps_ok {K : RV → Prop} : ∀ {t : RT}, t.cps K → ∃ r, t.run = some r ∧ K r
  | .fail, h => by cases h
  | .ret r, h => ⟨r, rfl, h⟩
  | .test c a b, h => by
    cases c
    · exact RT.cps_ok (t := b) h
    · exact RT.cps_ok (t := a) h
def RV.list : RV → List AV
  | .one a => [a]
  | .many l => l
def RV.val (n : Nat) : RV → Value
  | .one a => match argsAt n [a] with
    | [v] => v
    | _ => junk
  | .many l => .tuple ⟨argsAt n l⟩
def nodupB : List Nat → Bool
  | [] => true
  | b :: r => !(r.any (Nat.beq b)) && nodupB r
theorem ren_flat {ρ : Ren} : ∀ (n : Nat) (v : Value), flatN n v = true → renN ρ n v = some v := by
  intro n
  induction n with
  | zero => intro v h; cases h
  | succ n ih =>
    have hl : ∀ l : List Value, l.all (flatN n) = true → renL (renN ρ n) l = some l := by
      intro l
      induction l with
      | nil => intro _; rfl
      | cons a l ihl =>
        intro h
        simp only [List.all_cons, Bool.and_eq_true] at h
        simp only [renL, ih a h.1, ihl h.2]
    intro v h
    cases v with
    | iface t v => simp only [flatN] at h; simp only [renN, ih v h, Option.map_some]
    | agg cs => simp only [flatN] at h; simp only [renN, hl _ h, Option.map_some]
    | tuple cs => simp only [flatN] at h; simp only [renN, hl _ h, Option.map_some]
    | pointer a => cases a with
      | none => rfl
      | some a => simp [flatN] at h
    | slice a l c => cases a with
      | none => rfl
      | some a => simp [flatN] at h
    | map a => cases a with
      | none => rfl
      | some a => simp [flatN] at h
    | _ => first | rfl | (simp [flatN] at h)
def posOf (b : Nat) : List Nat → Option Nat
  | [] => none
  | a :: r => if b = a then some 0 else (posOf b r).map (· + 1)
theorem posOf_eq {b : Nat} : ∀ {l : List Nat} {j : Nat}, posOf b l = some j → l[j]? = some b
  | [], _, h => by cases h
  | a :: r, j, h => by
    unfold posOf at h
    split at h
    · rename_i e; cases h; rw [e]; rfl
    · obtain ⟨q, h1, rfl⟩ := Option.map_eq_some_iff.1 h
      rw [List.getElem?_cons_succ]
      exact posOf_eq h1
theorem posOf_at {b : Nat} : ∀ {l : List Nat} {j : Nat}, l.Nodup → l[j]? = some b → posOf b l = some j
  | [], _, _, h => by cases h
  | a :: r, 0, _, h => by
    simp only [List.getElem?_cons_zero, Option.some.injEq] at h
    unfold posOf; rw [if_pos h.symm]
  | a :: r, j + 1, hn, h => by
    simp only [List.getElem?_cons_succ] at h
    have hn := List.nodup_cons.1 hn
    have hne : b ≠ a := by rintro rfl; exact hn.1 (List.mem_of_getElem? h)
    unfold posOf; rw [if_neg hne, posOf_at hn.2 h]; rfl
theorem nodup_inj {l : List Nat} (hn : l.Nodup) {i j b : Nat} (h1 : l[i]? = some b) (h2 : l[j]? = some b) : i = j := by
  have e1 := posOf_at hn h1
  rw [posOf_at hn h2] at e1
  cases e1; rfl

end Go.Ideal

namespace Go.Ideal

structure Leaf where
  v : Value
  olds : List (Option IObj)
  news : List IObj
inductive GT where
  | fail
  | ret (x : Leaf)
  | test (c : Bool) (a b : GT)
  | ask (p : Prop) (a : GT)
open Classical in
noncomputable def GT.run : GT → Option Leaf
  | .fail => none
  | .ret x => some x
  | .test c a b => bif c then a.run else b.run
  | .ask p a => if p then a.run else none
def GT.cps : GT → (Leaf → Prop) → Prop
  | .fail, _ => False
  | .ret x, K => K x
  | .test c a b, K => bif c then a.cps K else b.cps K
  | .ask p a, K => p ∧ a.cps K
theorem GT.cps_ok {K : Leaf → Prop} : ∀ {t : GT}, t.cps K → ∃ x, t.run = some x ∧ K x
  | .fail, h => by cases h
  | .ret x, h => ⟨x, rfl, h⟩
  | .test c a b, h => by
    cases c
    · exact GT.cps_ok (t := b) h
    · exact GT.cps_ok (t := a) h
  | .ask p a, h => by
    obtain ⟨x, h1, h2⟩ := GT.cps_ok (t := a) h.2
    exact ⟨x, by simp only [GT.run]; rw [if_pos h.1]; exact h1, h2⟩

def lowOf (laid : List (Nat × List Value)) (N : Nat) (b : Nat) : Option Nat := bif Nat.blt b N && laid.any (fun p => Nat.beq b p.1) then some b else none
def outOf (laid : List (Nat × List Value)) (N : Nat) (bs : List Nat) : Ren := fun b => bif Nat.blt b N then lowOf laid N b else bs[b - N]?
def inOf (laid : List (Nat × List Value)) (N : Nat) (bs : List Nat) : Ren := fun b => bif Nat.blt b N then lowOf laid N b else posIn b bs N

noncomputable def objL (ρ : Ren) (H : IHeap) : List Nat → Option (List IObj)
  | [] => some []
  | b :: r => match H.get b with
    | some o => match renO ρ o, objL ρ H r with
      | some o1, some l => some (o1 :: l)
      | _, _ => none
    | none => none
noncomputable def refsO2 : IObj → List Nat
  | .cells cs _ _ => cs.flatMap (refsN 4)
  | .vec [.tok] l _ => List.flatMap (refsN 4) l
  | _ => []
noncomputable def reach2 (H : IHeap) (N : Nat) : Nat → List Nat → List Nat → List Nat
  | 0, _, seen => seen
  | f + 1, todo, seen => match todo with
    | [] => seen
    | b :: r => bif Nat.blt b N || seen.any (Nat.beq b) then reach2 H N f r seen else
      match H.get b with
      | some o => reach2 H N f (refsO2 o ++ r) (seen ++ [b])
      | none => reach2 H N f r seen
def mutAt (muts : List Bool) (j : Nat) : Bool := muts.getD j false
def viewL (muts : List Bool) : Nat → List IObj → List IObj
  | _, [] => []
  | j, o :: r => (bif mutAt muts j then o else asRo o) :: viewL muts (j + 1) r
noncomputable def putL (H : IHeap) : List IObj → IHeap
  | [] => H
  | o :: r => putL (H.alloc o) r
noncomputable def mutsOk (muts : List Bool) (H : IHeap) : Nat → List Nat → Bool
  | _, [] => true
  | j, b :: r => (bif mutAt muts j then (match H.get b with | some o => !o.ro | none => false) else true) && mutsOk muts H (j + 1) r
noncomputable def backL (ρ : Ren) (muts : List Bool) (H : IHeap) : Nat → List Nat → List (Option IObj) → Option IHeap
  | _, [], _ => some H
  | j, b :: r, os => bif mutAt muts j then
      match os with
      | some o :: os => match renO ρ o with
        | some o1 => bif o1.ro then none else backL ρ muts (H.put b o1) (j + 1) r os
        | none => none
      | none :: os => backL ρ muts (H.del b) (j + 1) r os
      | [] => backL ρ muts (H.del b) (j + 1) r []
    else backL ρ muts H (j + 1) r os.tail
noncomputable def newL (ρ : Ren) (H : IHeap) : List IObj → Option IHeap
  | [] => some H
  | o :: r => match renO ρ o with
    | some o1 => bif o1.ro then none else newL ρ (H.alloc o1) r
    | none => none
def extOut (laid : List (Nat × List Value)) (N : Nat) (bs : List Nat) (nx k : Nat) : Ren := outOf laid N (bs ++ (List.range k).map (nx + ·))
noncomputable def footEnd (laid : List (Nat × List Value)) (N : Nat) (muts : List Bool) (bs : List Nat) (H : IHeap) (x : Leaf) : Option (Value × IHeap) :=
  match renV (extOut laid N bs H.next x.news.length) x.v, backL (extOut laid N bs H.next x.news.length) muts H 0 bs x.olds with
  | some v, some H1 => match newL (extOut laid N bs H.next x.news.length) H1 x.news with
    | some H2 => some (v, H2)
    | none => none
  | _, _ => none
noncomputable def footF (laid : List (Nat × List Value)) (N : Nat) (muts : List Bool) (G : List Value → List IObj → GT) : IFun := fun args H =>
  match renL (renV (inOf laid N (reach2 H N 200 (args.flatMap (refsN 4)) []))) args, objL (inOf laid N (reach2 H N 200 (args.flatMap (refsN 4)) [])) H (reach2 H N 200 (args.flatMap (refsN 4)) []) with
  | some argsc, some objs => bif mutsOk muts H 0 (reach2 H N 200 (args.flatMap (refsN 4)) []) then
      match (G argsc objs).run with
      | some x => footEnd laid N muts (reach2 H N 200 (args.flatMap (refsN 4)) []) H x
      | none => none
    else none
  | _, _ => none
noncomputable def footPf (laid : List (Nat × List Value)) (N : Nat) (muts : List Bool) (G : List Value → List IObj → GT) : PFun := fun args H K =>
  match renL (renV (inOf laid N (reach2 H N 200 (args.flatMap (refsN 4)) []))) args, objL (inOf laid N (reach2 H N 200 (args.flatMap (refsN 4)) [])) H (reach2 H N 200 (args.flatMap (refsN 4)) []) with
  | some argsc, some objs => bif mutsOk muts H 0 (reach2 H N 200 (args.flatMap (refsN 4)) []) then
      (G argsc objs).cps fun x => match footEnd laid N muts (reach2 H N 200 (args.flatMap (refsN 4)) []) H x with
        | some (v, H') => K v H'
        | none => False
    else False
  | _, _ => False
theorem footPf_ok {X : Ctx} {laid : List (Nat × List Value)} {f : FuncId} {N : Nat} {muts : List Bool} {G : List Value → List IObj → GT} (hX : X.intr f = some (footF laid N muts G)) {args : List Value} {H : IHeap} {K : Value → IHeap → Prop} (h : footPf laid N muts G args H K) :
    ∃ v H', intrAt X f args .normal H = some (v, H') ∧ K v H' := by
  unfold footPf at h
  split at h
  · rename_i argsc objs h1 h2
    cases hm : mutsOk muts H 0 (reach2 H N 200 (args.flatMap (refsN 4)) [])
    · simp only [hm, cond_false] at h
    · simp only [hm, cond_true] at h
      obtain ⟨x, hx, h3⟩ := GT.cps_ok h
      split at h3
      · rename_i v H' he
        refine ⟨v, H', ?_, h3⟩
        unfold intrAt
        simp only [hX]
        unfold footF
        simp only [h1, h2, hm, cond_true, hx, he]
      · cases h3
  · cases h

def TMatch (laid : List (Nat × List Value)) (N m : Nat) (muts : List Bool) (x : Leaf) (v : Value) (Hf : IHeap) : Prop :=
  ∃ ns : List Nat, ns.Nodup ∧ (∀ b ∈ ns, N + m ≤ b) ∧ ns.length = x.news.length ∧ renV (runOf laid N m ns) x.v = some v ∧
    (∀ (j b : Nat) (o : IObj), ns[j]? = some b → x.news[j]? = some o → ∃ o1, renO (runOf laid N m ns) o = some o1 ∧ Hf.get b = some o1) ∧
    (∀ (j : Nat) (o : IObj), j < m → mutAt muts j = true → x.olds[j]? = some (some o) → ∃ o1, renO (runOf laid N m ns) o = some o1 ∧ Hf.get (N + j) = some o1)
where
  runOf (laid : List (Nat × List Value)) (N m : Nat) (ns : List Nat) : Ren := fun b => if b < N then lowOf laid N b else if b < N + m then some b else ns[b - (N + m)]?
end Go.Ideal
