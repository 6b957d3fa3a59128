/-
  Part of the proof: the machine that runs a program by fixed orders, and that each of its runs is a run of the model; or a run of it in parts. No conditions.
-/
import Derived.Test.YtidglbgpoagjlaaGreatDoorIdSched
namespace Go.Ideal
section
variable {X : Ctx} {base : Env} {W0 : World} {μ : Inj} {H : IHeap} {W : World}

theorem range_map (ops : Array Oper) : (List.range ops.size).map (ops[·]?) = ops.toList.map some := by
  apply List.ext_getElem?
  intro i
  simp only [List.getElem?_map, Array.getElem?_toList]
  by_cases h : i < ops.size
  · simp [h]
  · simp [h]


theorem c_rangeFuncV {P : Program} {fn : FuncId} {tm : Array Value} {k : List Item} {ds : List Deferred} {kd : CallKind} {rd : Option Nat} {cs : List Frame} {f : Operand} {ps : Array Tmp} {a b : Code} {l : Nat} {mark : List Deferred} {W' W2 : World} {v : Value}
    (hl : (Instr.enterLoop fn tm ps a b rd).run P W = .ok (l, mark) W')
    (hr : (do let d ← resolve (Frame.eval ⟨fn, tm, .inRangeFunc l :: k, mark ++ ds, .run, kd, rd⟩) { callee := .value f, args := #[.const (.func (.yield l) #[] #[])], argTypes := #[] } 0; invoke d.target d.args : Sem Next).run P W' = .ok (.value v) W2) :
    step P (lone ⟨fn, tm, .code (.rangeFunc f ps a b) :: k, ds, .run, kd, rd⟩ cs W) = .next (lone (Frame.finish ⟨fn, tm, .inRangeFunc l :: k, mark ++ ds, .run, kd, rd⟩ v) cs W2) := by
  refine step_lone_go ?_
  simp only [stepG, stepG.exec, Sem.runT_eq, hl, GStep.bare_after]
  simp only [stepG.apply, Sem.runT_eq, if_true, GStep.bare_after]
  rw [hr]
  rfl

/-- The call of a function that is ranged over, behind the making of the loop. -/
theorem rangeCall_sim (hok : IntrOk X base W0) {gs : List Nat} {fn : FuncId} {t : Tr Value} {n : Nat} {tm : Array Value} {k : List IItem} {k' : List Item} {ds' ds1 mark : List Deferred} {kd : CallKind} {rd rd' : Option Nat} {cs : List IFrame} {cs' cs0 : List Frame} {c' : Cfg}
    {f : Operand} {ps : Array Tmp} {a b : Code} {l : Nat} {T : Tgt} {μ1 : Inj} {H1 : IHeap} {W1 : World}
    (hH : HRel base W0 μ1 H1 W1) (hlaid : LaidRel X μ1) (ht : TRel μ1 t n tm) (hk : ItsRel μ1 k k') (hd : DefsRel μ1 ds1 (mark ++ ds')) (hrd : RdRel μ1 rd rd') (hcs : FsRel X μ1 H1 gs cs cs') (hnd : gs.Nodup) (hT : μ1 l = some T)
    (hl : (Instr.enterLoop fn tm ps a b rd').run X.P W = .ok (T.c, mark) W1)
    (h : callI X (ieval X t f) [.func (.yield l) ⟨[]⟩ ⟨[]⟩] ⟨fn, t, n, .inRangeFunc l :: k, ds1, false, kd, rd⟩ cs H1 = some c') :
    StepSim X base W0 cs0 c' (lone ⟨fn, tm, .code (.rangeFunc f ps a b) :: k', ds', .run, kd, rd'⟩ (cs' ++ cs0) W) := by
  have hfr : FRel X μ1 H1 [] ⟨fn, t, n, .inRangeFunc l :: k, ds1, false, kd, rd⟩ ⟨fn, tm, .inRangeFunc T.c :: k', mark ++ ds', .run, kd, rd'⟩ :=
    .plain fn t n tm _ _ _ _ false kd rd rd' ht (.cons (.inRangeFunc l T hT) hk) hd hrd
  have hf := eval_rel (fr := ⟨fn, tm, .inRangeFunc T.c :: k', mark ++ ds', .run, kd, rd'⟩) hlaid ht f
  have hyv : LRel μ1 [.func (.yield l) ⟨[]⟩ ⟨[]⟩] [.func (.yield T.c) #[] #[]] := .cons (VRel.func_iff.2 ⟨_, _, _, rfl, .yield l T hT, .nil, .nil⟩) .nil
  have hmap : ∀ fr : Frame, (#[Operand.const (Value.func (Fn.yield T.c) #[] #[])] : Array Operand).map fr.eval = #[.func (.yield T.c) #[] #[]] := fun fr => by simp [Frame.eval]
  unfold callI at h
  split at h
  · rename_i g first captured hfe
    rw [hfe] at hf
    obtain ⟨fn', xs', ys', hfe', hfn, hx1, hy1⟩ := VRel.func_iff.1 hf
    cases hfn
    refine enterI_sim hok (args' := xs' ++ #[.func (.yield T.c) #[] #[]] ++ ys') hH hlaid hfr hcs hnd ?_ (fun nn cc he => .one (c_rangeFunc hl ?_)) (fun v hv => ?_) h
    · simp only [Array.toList_append]; exact (hx1.append hyv).append hy1
    · simp only [resolve, hfe', Deferred.ofValue, Sem.run_bind, Sem.run_pure, Result.andThen_ok, invoke, hmap]
      exact run_callFunc he _ _
    · exact .one (c_rangeFuncV hl (by simp only [resolve, hfe', Deferred.ofValue, Sem.run_bind, Sem.run_pure, Result.andThen_ok, invoke, hmap]; exact hv))
  · rename_i l2 first captured hfe
    rw [hfe] at hf
    obtain ⟨fn', xs', ys', hfe', hfn, hx1, hy1⟩ := VRel.func_iff.1 hf
    cases hfn with
    | yield _ T2 hT2 =>
      refine yieldI_sim (args' := xs' ++ #[.func (.yield T.c) #[] #[]]) hH hlaid hfr hcs hnd ?_ hT2 (fun f2 t2 a2 b2 hy => .one (c_rangeFuncY hl ?_)) h
      · simp only [Array.toList_append]; exact hx1.append hyv
      · simp only [resolve, hfe', Deferred.ofValue, Sem.run_bind, Sem.run_pure, Result.andThen_ok, invoke, hmap]
        exact hy
  · cases h

end
end Go.Ideal
