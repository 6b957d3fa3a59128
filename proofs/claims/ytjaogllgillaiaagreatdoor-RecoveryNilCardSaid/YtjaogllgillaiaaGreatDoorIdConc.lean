/-
  Part of the proof: the machine that runs a program by fixed orders, and that each of its runs is a run of the model; or a run of it in parts. No conditions.
-/
import Derived.Test.YtjaogllgillaiaaGreatDoorIdSimD
namespace Go.Ideal
section
variable {W : World}

/-! Steps of the machine, with the frame's fields apart. -/
section
variable {P : Program} {fn : FuncId} {tm : Array Value} {k : List Item} {ds : List Deferred} {kd : CallKind} {rd : Option Nat} {cs : List Frame}

theorem c_seq {a b : Code} : step P (lone ⟨fn, tm, .code (.seq a b) :: k, ds, .run, kd, rd⟩ cs W) = .next (lone ⟨fn, tm, .code a :: .code b :: k, ds, .run, kd, rd⟩ cs W) := step_lone_go (by simp [stepG, stepG.exec])
theorem c_skip : step P (lone ⟨fn, tm, .code .skip :: k, ds, .run, kd, rd⟩ cs W) = .next (lone ⟨fn, tm, k, ds, .run, kd, rd⟩ cs W) := step_lone_go (by simp [stepG, stepG.exec])
theorem c_label {l : Nat} : step P (lone ⟨fn, tm, .code (.label l) :: k, ds, .run, kd, rd⟩ cs W) = .next (lone ⟨fn, tm, k, ds, .run, kd, rd⟩ cs W) := step_lone_go (by simp [stepG, stepG.exec])
theorem c_inBlock {l : Nat} : step P (lone ⟨fn, tm, .inBlock l :: k, ds, .run, kd, rd⟩ cs W) = .next (lone ⟨fn, tm, k, ds, .run, kd, rd⟩ cs W) := step_lone_go (by simp [stepG, stepG.exec])
theorem c_inScope {b : Code} : step P (lone ⟨fn, tm, .inScope b :: k, ds, .run, kd, rd⟩ cs W) = .next (lone ⟨fn, tm, k, ds, .run, kd, rd⟩ cs W) := step_lone_go (by simp [stepG, stepG.exec])
theorem c_block {l : Nat} {b : Code} : step P (lone ⟨fn, tm, .code (.block l b) :: k, ds, .run, kd, rd⟩ cs W) = .next (lone ⟨fn, tm, .code b :: .inBlock l :: k, ds, .run, kd, rd⟩ cs W) := step_lone_go (by simp [stepG, stepG.exec])
theorem c_loop {b : Code} : step P (lone ⟨fn, tm, .code (.loop b) :: k, ds, .run, kd, rd⟩ cs W) = .next (lone ⟨fn, tm, .code b :: .inLoop b :: k, ds, .run, kd, rd⟩ cs W) := step_lone_go (by simp [stepG, stepG.exec])
theorem c_inLoop {b : Code} : step P (lone ⟨fn, tm, .inLoop b :: k, ds, .run, kd, rd⟩ cs W) = .next (lone ⟨fn, tm, .code b :: .inLoop b :: k, ds, .run, kd, rd⟩ cs W) := step_lone_go (by simp [stepG, stepG.exec])
theorem c_scope {b : Code} : step P (lone ⟨fn, tm, .code (.scope b) :: k, ds, .run, kd, rd⟩ cs W) = .next (lone ⟨fn, tm, .code b :: .inScope b :: k, ds, .run, kd, rd⟩ cs W) := step_lone_go (by simp [stepG, stepG.exec])
theorem c_cond {c : Operand} {a b : Code} {x : Bool} (h : Frame.eval ⟨fn, tm, .code (.cond c a b) :: k, ds, .run, kd, rd⟩ c = .bool x) :
    step P (lone ⟨fn, tm, .code (.cond c a b) :: k, ds, .run, kd, rd⟩ cs W) = .next (lone ⟨fn, tm, .code (bif x then a else b) :: k, ds, .run, kd, rd⟩ cs W) :=
  step_lone_go (by cases x <;> simp [stepG, stepG.exec, h])
theorem c_exit {id : Nat} {k' : List Item} (h : exitTo id k = some k') : step P (lone ⟨fn, tm, .code (.exit id) :: k, ds, .run, kd, rd⟩ cs W) = .next (lone ⟨fn, tm, k', ds, .run, kd, rd⟩ cs W) :=
  step_lone_go (by simp [stepG, stepG.exec, h])
theorem c_region {id : Nat} {ops : Array Oper} : step P (lone ⟨fn, tm, .code (.region id ops false) :: k, ds, .run, kd, rd⟩ cs W) = .next (lone ⟨fn, tm, .inRegion ops (List.range ops.size) :: k, ds, .run, kd, rd⟩ cs W) := step_lone_go (by simp [stepG, stepG.exec])
theorem c_regionEnd {ops : Array Oper} : step P (lone ⟨fn, tm, .inRegion ops [] :: k, ds, .run, kd, rd⟩ cs W) = .next (lone ⟨fn, tm, k, ds, .run, kd, rd⟩ cs W) := step_lone_go (by simp [stepG, stepG.exec])
theorem c_opSkip {ops : Array Oper} {i : Nat} {o : Oper} {rest : List Nat} (ho : ops[i]? = some o) (hw : Region.wanted o (yielded ops tm) = false) :
    step P (lone ⟨fn, tm, .inRegion ops (i :: rest) :: k, ds, .run, kd, rd⟩ cs W) = .next (lone (Frame.finish ⟨fn, tm, .inRegion ops (i :: rest) :: k, ds, .run, kd, rd⟩ Go.undef) cs W) :=
  step_lone_go (by simp [stepG, stepG.exec, ho, hw])
theorem c_op {ops : Array Oper} {i : Nat} {o : Oper} {rest : List Nat} (ho : ops[i]? = some o) (hw : Region.wanted o (yielded ops tm) = true) (hnd : ∀ c, o.op = .defer c → rd = none) {nx : Next} {v : Value} {W' : World}
    (hr : (execOp (Frame.eval ⟨fn, tm, .inRegion ops (i :: rest) :: k, ds, .run, kd, rd⟩) o).run P W = .ok nx W') (hf : Fin nx v) :
    step P (lone ⟨fn, tm, .inRegion ops (i :: rest) :: k, ds, .run, kd, rd⟩ cs W) = .next (lone (Frame.finish ⟨fn, tm, .inRegion ops (i :: rest) :: k, ds, .run, kd, rd⟩ v) cs W') := by
  refine step_lone_go ?_
  have hop : stepG.oper P true ⟨fn, tm, .inRegion ops (i :: rest) :: k, ds, .run, kd, rd⟩ cs none W = stepG.apply P true ⟨fn, tm, .inRegion ops (i :: rest) :: k, ds, .run, kd, rd⟩ cs none (execOp (Frame.eval ⟨fn, tm, .inRegion ops (i :: rest) :: k, ds, .run, kd, rd⟩) o) W := by
    simp only [stepG.oper, Frame.oper?, ho]
    cases rd with
    | none => rfl
    | some l => cases hq : o.op with
      | defer c => exact absurd (hnd c hq) (by simp)
      | _ => rfl
  simp only [stepG, stepG.exec, ho, hw, Option.map_some, Option.getD_some, if_true]
  rw [hop]
  rcases hf with rfl | ⟨rfl, rfl⟩ <;> simp [stepG.apply, hr]
theorem c_recover {ops : Array Oper} {i : Nat} {o : Oper} {rest : List Nat} (ho : ops[i]? = some o) (hw : Region.wanted o (yielded ops tm) = true) (hnd : ∀ c, o.op = .defer c → rd = none) {W' : World}
    (hr : (execOp (Frame.eval ⟨fn, tm, .inRegion ops (i :: rest) :: k, ds, .run, kd, rd⟩) o).run P W = .ok .recover W') (hrd : rd = none) (hn : tryRecover ⟨fn, tm, .inRegion ops (i :: rest) :: k, ds, .run, kd, rd⟩ cs = none) :
    step P (lone ⟨fn, tm, .inRegion ops (i :: rest) :: k, ds, .run, kd, rd⟩ cs W) = .next (lone (Frame.finish ⟨fn, tm, .inRegion ops (i :: rest) :: k, ds, .run, kd, rd⟩ .nilIface) cs W') := by
  refine step_lone_go ?_
  have hop : stepG.oper P true ⟨fn, tm, .inRegion ops (i :: rest) :: k, ds, .run, kd, rd⟩ cs none W = stepG.apply P true ⟨fn, tm, .inRegion ops (i :: rest) :: k, ds, .run, kd, rd⟩ cs none (execOp (Frame.eval ⟨fn, tm, .inRegion ops (i :: rest) :: k, ds, .run, kd, rd⟩) o) W := by
    simp only [stepG.oper, Frame.oper?, ho]
    cases rd with
    | none => rfl
    | some l => cases hq : o.op with
      | defer c => exact absurd (hnd c hq) (by simp)
      | _ => rfl
  simp only [stepG, stepG.exec, ho, hw, Option.map_some, Option.getD_some, if_true]
  rw [hop]
  subst hrd
  simp [stepG.apply, hr, hn]
theorem c_call {ops : Array Oper} {i : Nat} {o : Oper} {rest : List Nat} (ho : ops[i]? = some o) (hw : Region.wanted o (yielded ops tm) = true) (hnd : ∀ c, o.op = .defer c → rd = none) {f : FuncId} {args : Array Value} {W' : World}
    (hr : (execOp (Frame.eval ⟨fn, tm, .inRegion ops (i :: rest) :: k, ds, .run, kd, rd⟩) o).run P W = .ok (.enter f args) W') :
    step P (lone ⟨fn, tm, .inRegion ops (i :: rest) :: k, ds, .run, kd, rd⟩ cs W) = .next (lone (Frame.enter P f args .normal) (⟨fn, tm, .inRegion ops (i :: rest) :: k, ds, .run, kd, rd⟩ :: cs) W') := by
  refine step_lone_go ?_
  have hop : stepG.oper P true ⟨fn, tm, .inRegion ops (i :: rest) :: k, ds, .run, kd, rd⟩ cs none W = stepG.apply P true ⟨fn, tm, .inRegion ops (i :: rest) :: k, ds, .run, kd, rd⟩ cs none (execOp (Frame.eval ⟨fn, tm, .inRegion ops (i :: rest) :: k, ds, .run, kd, rd⟩) o) W := by
    simp only [stepG.oper, Frame.oper?, ho]
    cases rd with
    | none => rfl
    | some l => cases hq : o.op with
      | defer c => exact absurd (hnd c hq) (by simp)
      | _ => rfl
  simp only [stepG, stepG.exec, ho, hw, Option.map_some, Option.getD_some, if_true]
  rw [hop]
  simp [stepG.apply, hr]
theorem c_round {ops : Array Oper} {i : Nat} {o : Oper} {rest : List Nat} (ho : ops[i]? = some o) (hw : Region.wanted o (yielded ops tm) = true) (hnd : ∀ c, o.op = .defer c → rd = none) {l f : Nat} {t : Array Value} {a b : Code} {W' : World}
    (hr : (execOp (Frame.eval ⟨fn, tm, .inRegion ops (i :: rest) :: k, ds, .run, kd, rd⟩) o).run P W = .ok (.round l f t a b) W') :
    step P (lone ⟨fn, tm, .inRegion ops (i :: rest) :: k, ds, .run, kd, rd⟩ cs W) = .next (lone (Frame.round l f t a b .normal) (⟨fn, tm, .inRegion ops (i :: rest) :: k, ds, .run, kd, rd⟩ :: cs) W') := by
  refine step_lone_go ?_
  have hop : stepG.oper P true ⟨fn, tm, .inRegion ops (i :: rest) :: k, ds, .run, kd, rd⟩ cs none W = stepG.apply P true ⟨fn, tm, .inRegion ops (i :: rest) :: k, ds, .run, kd, rd⟩ cs none (execOp (Frame.eval ⟨fn, tm, .inRegion ops (i :: rest) :: k, ds, .run, kd, rd⟩) o) W := by
    simp only [stepG.oper, Frame.oper?, ho]
    cases rd with
    | none => rfl
    | some l => cases hq : o.op with
      | defer c => exact absurd (hnd c hq) (by simp)
      | _ => rfl
  simp only [stepG, stepG.exec, ho, hw, Option.map_some, Option.getD_some, if_true]
  rw [hop]
  simp [stepG.apply, hr]
theorem c_defer {ops : Array Oper} {i : Nat} {o : Oper} {rest : List Nat} {d : Deferred} (ho : ops[i]? = some o) (hw : Region.wanted o (yielded ops tm) = true)
    (hr : (execOp (Frame.eval ⟨fn, tm, .inRegion ops (i :: rest) :: k, ds, .run, kd, none⟩) o).run P W = .ok (.defer d) W) :
    step P (lone ⟨fn, tm, .inRegion ops (i :: rest) :: k, ds, .run, kd, none⟩ cs W) = .next (lone (Frame.finish ⟨fn, tm, .inRegion ops (i :: rest) :: k, d :: ds, .run, kd, none⟩ Go.undef) cs W) := by
  refine step_lone_go ?_
  simp only [stepG, stepG.exec, ho, hw, Option.map_some, Option.getD_some, if_true, stepG.oper, Frame.oper?]
  simp [stepG.apply, hr]
theorem c_leave (todo : List Item) (h : todo = [] ∨ ∃ k, todo = .code .ret :: k) : step P (lone ⟨fn, tm, todo, ds, .run, kd, none⟩ cs W) = .next (lone ⟨fn, tm, todo, ds, .returning, kd, none⟩ cs W) := by
  rcases h with rfl | ⟨k, rfl⟩ <;> exact step_lone_go (by simp [stepG, stepG.exec])
theorem c_retDefer {f : FuncId} {args : Array Value} {d : Deferred} {todo : List Item} {W' : World} (hnc : ∀ b, d.target ≠ .collected b) (hr : (invoke d.target d.args).run P W = .ok (.enter f args) W') :
    step P (lone ⟨fn, tm, todo, d :: ds, .returning, kd, rd⟩ cs W) = .next (lone (Frame.enter P f args .deferred) (⟨fn, tm, todo, ds, .returning, kd, rd⟩ :: cs) W') := by
  refine step_lone_go ?_
  obtain ⟨t, a⟩ := d
  cases t <;> first | exact absurd rfl (hnc _) | simp [stepG, unwind, callDeferred, hr]
theorem c_retCollected {b : Nat} {a : Array Value} {l : List Deferred} {todo : List Item} {W' : World} (hr : (Instr.takeDeferred b).run P W = .ok l W') :
    step P (lone ⟨fn, tm, todo, ⟨.collected b, a⟩ :: ds, .returning, kd, rd⟩ cs W) = .next (lone ⟨fn, tm, todo, l ++ ds, .returning, kd, rd⟩ cs W') :=
  step_lone_go (by simp [stepG, unwind, hr])
theorem c_return {f : Func} {v : Value} {todo : List Item} {c : Frame} (hf : P.funcs[fn]? = some f) (hr : (results f tm).run P W = .ok v W) :
    step P (lone ⟨fn, tm, todo, [], .returning, .normal, rd⟩ (c :: cs) W) = .next (lone (c.finish v) cs W) :=
  step_lone_go (by simp [stepG, unwind, doReturn, hf, hr])
theorem c_returnD {f : Func} {v : Value} {todo : List Item} {c : Frame} (hf : P.funcs[fn]? = some f) (hr : (results f tm).run P W = .ok v W) (hm : c.mode = .returning ∨ c.mode = .run) :
    step P (lone ⟨fn, tm, todo, [], .returning, .deferred, rd⟩ (c :: cs) W) = .next (lone c cs W) := by
  obtain ⟨a1, a2, a3, a4, a5, a6, a7⟩ := c
  rcases hm with hm | hm <;> (simp only at hm; subst hm; exact step_lone_go (by simp [stepG, unwind, doReturn, hf, hr]))
end


section
variable {P : Program} {fn : FuncId} {tm : Array Value} {k : List Item} {ds : List Deferred} {kd : CallKind} {rd : Option Nat} {cs : List Frame}

theorem run_getLoop {w : World} {l : Nat} {r : Loop} (h : w.heap[l]? = some (.loop r)) : (Instr.getLoop l).run P w = .ok r w := by
  simp [Instr.getLoop, run_getObj' (P := P) h (by intro c t f; simp)]
theorem run_endRound {l : Nat} {r : Loop} {j : Option Code} (h : W.heap[l]? = some (.loop r)) : (Instr.endRound l j).run P W =
    .ok (.bool j.isNone) { W with heap := W.heap.setIfInBounds l (.loop { r with state := if j.isNone then .ready else .done, pending := j }) } := by
  simp [Instr.endRound, run_getLoop (P := P) h, run_setObj' (P := P) h (by intro c t f; simp)]
theorem c_endRound {l : Nat} {r : Loop} {j : Option Code} {c : Frame} {todo : List Item} (h : W.heap[l]? = some (.loop r))
    (ht : (todo = [] ∧ j = none) ∨ (∃ k, todo = .code .ret :: k ∧ j = some .ret) ∨ ∃ id k, todo = .code (.exit id) :: k ∧ exitTo id k = none ∧ j = some (.exit id)) :
    step P (lone ⟨fn, tm, todo, ds, .run, .normal, some l⟩ (c :: cs) W) =
      .next (lone (c.finish (.bool j.isNone)) cs { W with heap := W.heap.setIfInBounds l (.loop { r with state := if j.isNone then .ready else .done, pending := j }) }) := by
  have hr := run_endRound (P := P) (j := j) h
  rcases ht with ⟨rfl, rfl⟩ | ⟨k, rfl, rfl⟩ | ⟨id, k, rfl, he, rfl⟩
  · exact step_lone_go (by simp [stepG, stepG.exec, hr, doReturn])
  · exact step_lone_go (by simp [stepG, stepG.exec, hr, doReturn])
  · exact step_lone_go (by simp [stepG, stepG.exec, hr, doReturn, he])
theorem c_beginRound {l : Nat} {r : Loop} (h : W.heap[l]? = some (.loop r)) (hs : r.state = .ready) :
    step P (lone ⟨fn, tm, .beginRound :: k, ds, .run, kd, some l⟩ cs W) = .next (lone ⟨fn, tm, k, ds, .run, kd, some l⟩ cs { W with heap := W.heap.setIfInBounds l (.loop { r with state := .busy }) }) := by
  have hr : (Instr.beginRound l).run P W = .ok () { W with heap := W.heap.setIfInBounds l (.loop { r with state := .busy }) } := by
    simp [Instr.beginRound, run_getLoop (P := P) h, run_setObj' (P := P) h (by intro c t f; simp), hs]
  refine step_lone_go ?_
  simp only [stepG, stepG.exec, Option.elim]
  simp [stepG.apply, hr, Frame.finish]
theorem c_endLoop {l : Nat} {r : Loop} (h : W.heap[l]? = some (.loop r)) (hs : r.state ≠ .busy) :
    step P (lone ⟨fn, tm, .endRangeFunc l :: k, ds, .run, kd, rd⟩ cs W) = .next (lone ⟨fn, tm, (r.pending.map Item.code).toList ++ k, ds, .run, kd, rd⟩ cs { W with heap := W.heap.setIfInBounds l (.loop { r with state := .exhausted }) }) := by
  have hr : (Instr.endLoop l).run P W = .ok r.pending { W with heap := W.heap.setIfInBounds l (.loop { r with state := .exhausted }) } := by
    simp [Instr.endLoop, run_getLoop (P := P) h, run_setObj' (P := P) h (by intro c t f; simp), hs]
  exact step_lone_go (by simp [stepG, stepG.exec, hr])
end


theorem enterLoop_none {fn : FuncId} {tm : Array Value} {ps : Array Tmp} {a b : Code} {P : Program} : (Instr.enterLoop fn tm ps a b none).run P W =
    .ok (W.heap.size + 1, [{ target := .collected W.heap.size, args := #[] }]) ((W.alloc (.deferred (some []))).alloc (.loop { state := .ready, pending := none, fn, tmps := tm, params := ps, assign := a, body := b, defers := W.heap.size })) := by
  simp [Instr.enterLoop]
theorem enterLoop_some {fn : FuncId} {tm : Array Value} {ps : Array Tmp} {a b : Code} {P : Program} {l : Nat} {r : Loop} (h : W.heap[l]? = some (.loop r)) : (Instr.enterLoop fn tm ps a b (some l)).run P W =
    .ok (W.heap.size, []) (W.alloc (.loop { state := .ready, pending := none, fn, tmps := tm, params := ps, assign := a, body := b, defers := r.defers })) := by
  simp [Instr.enterLoop, run_getLoop (P := P) h]

section
variable {P : Program} {fn : FuncId} {tm : Array Value} {k : List Item} {ds : List Deferred} {kd : CallKind} {rd : Option Nat} {cs : List Frame}
theorem c_rangeFunc {f : Operand} {ps : Array Tmp} {a b : Code} {l : Nat} {mark : List Deferred} {W' W2 : World} {g : FuncId} {args : Array Value}
    (hl : (Instr.enterLoop fn tm ps a b rd).run P W = .ok (l, mark) W')
    (hr : (do let d ← resolve (Frame.eval ⟨fn, tm, .inRangeFunc l :: k, mark ++ ds, .run, kd, rd⟩) { callee := .value f, args := #[.const (.func (.yield l) #[] #[])], argTypes := #[] } 0; invoke d.target d.args : Sem Next).run P W' = .ok (.enter g args) W2) :
    step P (lone ⟨fn, tm, .code (.rangeFunc f ps a b) :: k, ds, .run, kd, rd⟩ cs W) = .next (lone (Frame.enter P g args .normal) (⟨fn, tm, .inRangeFunc l :: k, mark ++ ds, .run, kd, rd⟩ :: cs) W2) := by
  refine step_lone_go ?_
  simp only [stepG, stepG.exec, Sem.runT_eq, hl, GStep.bare_after]
  simp only [stepG.apply, Sem.runT_eq, if_true, GStep.bare_after]
  rw [hr]
  rfl
theorem c_rangeFuncY {f : Operand} {ps : Array Tmp} {a b : Code} {l : Nat} {mark : List Deferred} {W' W2 : World} {l2 g : Nat} {t2 : Array Value} {a2 b2 : Code}
    (hl : (Instr.enterLoop fn tm ps a b rd).run P W = .ok (l, mark) W')
    (hr : (do let d ← resolve (Frame.eval ⟨fn, tm, .inRangeFunc l :: k, mark ++ ds, .run, kd, rd⟩) { callee := .value f, args := #[.const (.func (.yield l) #[] #[])], argTypes := #[] } 0; invoke d.target d.args : Sem Next).run P W' = .ok (.round l2 g t2 a2 b2) W2) :
    step P (lone ⟨fn, tm, .code (.rangeFunc f ps a b) :: k, ds, .run, kd, rd⟩ cs W) = .next (lone (Frame.round l2 g t2 a2 b2 .normal) (⟨fn, tm, .inRangeFunc l :: k, mark ++ ds, .run, kd, rd⟩ :: cs) W2) := by
  refine step_lone_go ?_
  simp only [stepG, stepG.exec, Sem.runT_eq, hl, GStep.bare_after]
  simp only [stepG.apply, Sem.runT_eq, if_true, GStep.bare_after]
  rw [hr]
  rfl
end


end
end Go.Ideal
