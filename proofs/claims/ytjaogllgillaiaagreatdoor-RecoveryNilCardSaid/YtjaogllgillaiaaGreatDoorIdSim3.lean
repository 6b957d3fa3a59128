/-
  Part of the proof: the machine that runs a program by fixed orders, and that each of its runs is a run of the model; or a run of it in parts. No conditions.
-/
import Derived.Test.YtjaogllgillaiaaGreatDoorIdSim2
namespace Go.Ideal
section
variable {X : Ctx} {base : Env} {W0 : World} {μ : Inj} {H : IHeap} {W : World}

theorem exitTo_rel {id : Nat} : ∀ {k : List IItem} {k' : List Item}, ItsRel μ k k' → (∀ q, iexitTo id k = some q → ∃ q', exitTo id k' = some q' ∧ ItsRel μ q q') ∧ (iexitTo id k = none → exitTo id k' = none) := by
  intro k k' h
  induction h with
  | nil => exact ⟨fun q e => by simp [iexitTo] at e, fun _ => rfl⟩
  | cons h t ih =>
    cases h with
    | inBlock id' =>
      simp only [iexitTo, exitTo]
      cases hb : Nat.beq id' id
      · have hne : (id' == id) = false := by
          cases hq : (id' == id)
          · rfl
          · rw [eq_of_beq hq, Nat.beq_refl] at hb; cases hb
        simp only [hne, cond_false]
        exact ih
      · have := Nat.eq_of_beq_eq_true hb
        subst this
        simp only [cond_true, beq_self_eq_true, if_true]
        exact ⟨fun q e => by cases e; exact ⟨_, rfl, t⟩, fun e => by cases e⟩
    | code c => exact ih
    | inLoop c => exact ih
    | inScope c => exact ih
    | reg ops l idx h => exact ih
    | inRangeFunc l T h => exact ih
    | endRangeFunc l T h => exact ih
    | beginRound => exact ih

theorem args_rel {t : Tr Value} {f : Frame} (args : Array Operand) (h : ∀ x ∈ args, VRel μ (ieval X t x) (f.eval x)) : LRel μ (args.toList.map (ieval X t)) (args.map f.eval).toList := by
  rw [Array.toList_map]; exact LRel.map _ _ _ fun x hx => h x (by simpa using hx)

/-- An operation at the head of a region. -/
theorem oper_sim (hok : IntrOk X base W0) {g gs : List Nat} {fn : FuncId} {t : Tr Value} {n : Nat} {tm : Array Value} {ops : Array Oper} {o : Oper} {i : Nat} {idx : List Nat} {todo : List IItem} {k' : List Item} {ds ds' : List Deferred} {kd : CallKind} {rd rd' : Option Nat}
    {cs : List IFrame} {cs' cs0 : List Frame} {c' : Cfg} (hH : HRel base W0 μ H W) (hlaid : LaidRel X μ) (ho : ops[i]? = some o) (hds : DefsRel μ ds ds') (hrd : RdRel μ rd rd') (hcs : FsRel X μ H gs cs cs') (hnd : (g ++ gs).Nodup)
    (hfr : ∀ ds1 ds1', DefsRel μ ds1 ds1' → FRel X μ H g ⟨fn, t, n, todo, ds1, false, kd, rd⟩ ⟨fn, tm, .inRegion ops (i :: idx) :: k', ds1', .run, kd, rd'⟩)
    (hev : ∀ x ∈ o.op.operands, VRel μ (ieval X t x) (Frame.eval ⟨fn, tm, .inRegion ops (i :: idx) :: k', ds', .run, kd, rd'⟩ x))
    (hw : Region.wanted o (yielded ops tm) = true) (hi : operI X o ⟨fn, t, n, todo, ds, false, kd, rd⟩ cs H = some c') :
    StepSim X base W0 cs0 c' (lone ⟨fn, tm, .inRegion ops (i :: idx) :: k', ds', .run, kd, rd'⟩ (cs' ++ cs0) W) := by
  -- an operation that needs no frame
  have hplain : (∀ c, o.op = .defer c → rd' = none) → (match iop X.P (ieval X t) o H with
      | some (v, H') => match finishI ⟨fn, t, n, todo, ds, false, kd, rd⟩ v with
        | some fr' => some (⟨fr', cs, H'⟩ : Cfg)
        | none => none
      | none => none) = some c' → StepSim X base W0 cs0 c' (lone ⟨fn, tm, .inRegion ops (i :: idx) :: k', ds', .run, kd, rd'⟩ (cs' ++ cs0) W) := by
    intro hnd1 hm
    split at hm
    · rename_i v H' hio
      split at hm
      · rename_i fr1 hfin
        cases hm
        rw [← iop_congr o (only_eq o (ieval X t))] at hio
        obtain ⟨μ', nx, v', W', r1, r2, r3, r4, r5⟩ := iop_sim hH (only_rel hev) hio
        exact ⟨μ', _, cs', W', .one (c_op ho hw hnd1 r1 r2), r3, hlaid.mono r5.le, g, gs, finish_rel ((hfr ds ds' hds).mono (r5.keeps g)) r4 hfin, hcs.mono (r5.keeps gs), hnd⟩
      · cases hm
    · cases hm
  unfold operI at hi
  split at hi
  · rename_i c hc
    have hnd1 : ∀ c, o.op = .defer c → rd' = none := fun c e => by rw [hc] at e; cases e
    split at hi
    · rename_i b hcal
      cases hb : isRec b
      · simp only [hb, cond_false] at hi; exact hplain hnd1 hi
      · simp only [hb, cond_true] at hi
        have hbe : b = .recover := by cases b <;> first | rfl | cases hb
        have hex : (execOp (Frame.eval ⟨fn, tm, .inRegion ops (i :: idx) :: k', ds', .run, kd, rd'⟩) o).run X.P W = .ok .recover W := by
          simp only [execOp, hc, resolve, hcal, hbe]
          rfl
        unfold recI at hi
        simp only at hi
        cases hrd with
        | some l T hm => cases hi
        | none =>
          simp only at hi
          have go : ∀ fr1, finishI ⟨fn, t, n, todo, ds, false, kd, none⟩ .nilIface = some fr1 → tryRecover ⟨fn, tm, .inRegion ops (i :: idx) :: k', ds', .run, kd, none⟩ (cs' ++ cs0) = none → c' = ⟨fr1, cs, H⟩ →
              StepSim X base W0 cs0 c' (lone ⟨fn, tm, .inRegion ops (i :: idx) :: k', ds', .run, kd, none⟩ (cs' ++ cs0) W) := by
            rintro fr1 hfin htr rfl
            exact ⟨μ, _, cs', W, .one (c_recover ho hw hnd1 hex rfl htr), hH, hlaid, g, gs, finish_rel (hfr ds ds' hds) .nilIface hfin, hcs, hnd⟩
          cases kd with
          | normal =>
            simp only at hi
            split at hi
            · rename_i fr1 hfin
              exact go fr1 hfin (by simp [tryRecover]) (by cases hi; rfl)
            · cases hi
          | deferred =>
            simp only at hi
            cases hcs with
            | nil => cases hi
            | cons hf hft =>
              simp only at hi
              split at hi
              · rename_i fr1 hfin
                refine go fr1 hfin ?_ (by cases hi; rfl)
                cases hf with
                | plain _ _ _ _ _ _ _ _ r _ _ _ _ _ _ _ => cases r <;> simp [tryRecover, modeOf]
                | susp => simp [tryRecover]
              · cases hi
          | _ => cases hi
    · rename_i f hcal
      have hopn : o.op.operands = #[f] ++ c.args := by rw [hc]; simp only [Op.operands, Call.operands, hcal]
      have hargs := args_rel (f := ⟨fn, tm, .inRegion ops (i :: idx) :: k', ds', .run, kd, rd'⟩) c.args fun x hx => hev x (by rw [hopn]; simp [hx])
      have hf := hev f (by rw [hopn]; simp)
      unfold callI at hi
      split at hi
      · rename_i g1 first captured hfe
        simp only at hfe
        rw [hfe] at hf
        obtain ⟨fn', xs', ys', hfe', hfn, hx1, hy1⟩ := VRel.func_iff.1 hf
        cases hfn
        have hex : ∀ w, (execOp (Frame.eval ⟨fn, tm, .inRegion ops (i :: idx) :: k', ds', .run, kd, rd'⟩) o).run X.P w = (callFunc g1 (xs' ++ c.args.map (Frame.eval ⟨fn, tm, .inRegion ops (i :: idx) :: k', ds', .run, kd, rd'⟩) ++ ys')).run X.P w := by
          intro w
          simp only [execOp, hc, resolve, hcal, hfe', Deferred.ofValue, Sem.run_bind, Sem.run_pure, Result.andThen_ok, invoke]
        refine enterI_sim hok (args' := xs' ++ c.args.map (Frame.eval ⟨fn, tm, .inRegion ops (i :: idx) :: k', ds', .run, kd, rd'⟩) ++ ys') hH hlaid (hfr ds ds' hds) hcs hnd ?_ (fun nn cc he => .one (c_call ho hw hnd1 ?_)) (fun v hv => .one (c_op ho hw hnd1 ?_ (.inl rfl))) hi
        · simp only [Array.toList_append]; exact (hx1.append hargs).append hy1
        · rw [hex]; exact run_callFunc he _ W
        · rw [hex]; exact hv
      · rename_i l first captured hfe
        simp only at hfe
        rw [hfe] at hf
        obtain ⟨fn', xs', ys', hfe', hfn, hx1, hy1⟩ := VRel.func_iff.1 hf
        cases hfn with
        | yield _ T hT =>
          refine yieldI_sim (args' := xs' ++ c.args.map (Frame.eval ⟨fn, tm, .inRegion ops (i :: idx) :: k', ds', .run, kd, rd'⟩)) hH hlaid (hfr ds ds' hds) hcs hnd ?_ hT (fun f2 t2 a2 b2 hy => .one (c_round ho hw hnd1 ?_)) hi
          · simp only [Array.toList_append]; exact hx1.append hargs
          · simp only [execOp, hc, resolve, hcal, hfe', Deferred.ofValue, Sem.run_bind, Sem.run_pure, Result.andThen_ok, invoke]
            exact hy
      · cases hi
    · cases hi
  · rename_i c hc
    split at hi
    · rename_i f hrn hcal
      simp only at hrn
      subst hrn
      cases hrd
      have hopn : o.op.operands = #[f] ++ c.args := by rw [hc]; simp only [Op.operands, Call.operands, hcal]
      split at hi
      · rename_i fn1 first captured hfe
        split at hi
        · rename_i fr1 hfin
          cases hi
          have hargs := args_rel (f := ⟨fn, tm, .inRegion ops (i :: idx) :: k', ds', .run, kd, none⟩) c.args fun x hx => hev x (by rw [hopn]; simp [hx])
          have hf := hev f (by rw [hopn]; simp)
          simp only at hfe
          rw [hfe] at hf
          obtain ⟨fn', xs', ys', hfe', hfn, hx1, hy1⟩ := VRel.func_iff.1 hf
          refine ⟨μ, _, cs', W, .one (c_defer (d := { target := .fn fn' ys', args := xs' ++ c.args.map (Frame.eval ⟨fn, tm, .inRegion ops (i :: idx) :: k', ds', .run, kd, none⟩) }) ho hw ?_), hH, hlaid, g, gs, ?_, hcs, hnd⟩
          · simp only [execOp, hc, resolve, hcal, hfe', Deferred.ofValue, Sem.run_bind, Sem.run_pure, Result.andThen_ok]
          · refine finish_rel (hfr _ _ (.cons ⟨.fn fn1 fn' captured ys' hfn hy1, ?_⟩ hds)) (VRel.undef μ) hfin
            simp only [Array.toList_append]
            exact hx1.append hargs
        · cases hi
      · cases hi
    · cases hi
  · rename_i hnc hnd1
    exact hplain (fun c e => absurd e (hnd1 c)) hi

theorem returnI_sim {gs : List Nat} {c' : Cfg} {cs : List IFrame} {cs' cs0 : List Frame} {kd : CallKind} {v v' : Value} {m : Machine} (hH : HRel base W0 μ H W) (hlaid : LaidRel X μ) (hcs : FsRel X μ H gs cs cs') (hnd : gs.Nodup) (hv : VRel μ v v')
    (hn : ∀ c rest, cs' = c :: rest → kd = .normal → Steps X.P m (lone (c.finish v') (rest ++ cs0) W)) (hdf : ∀ c rest, cs' = c :: rest → kd = .deferred → c.mode = .returning → Steps X.P m (lone c (rest ++ cs0) W)) (hi : returnI kd v cs H = some c') :
    StepSim X base W0 cs0 c' m := by
  unfold returnI at hi
  split at hi
  · cases hi
  · rename_i c rest
    cases hcs with
    | @cons g gs c c1' rest rest' h1 h2 =>
      split at hi
      · split at hi
        · rename_i c1 hfin
          cases hi
          exact ⟨μ, _, _, W, hn _ _ rfl rfl, hH, hlaid, g, gs, finish_rel h1 hv hfin, h2, hnd⟩
        · cases hi
      · cases h1 with
        | plain fn t n tm todo todo' ds ds' r kd2 rd rd' ht hi2 hd hr =>
          cases r
          · simp at hi
          · simp only [cond_true, Option.some.injEq] at hi
            subst hi
            exact ⟨μ, _, _, W, hdf _ _ rfl rfl rfl, hH, hlaid, [], gs, .plain fn t n tm todo todo' ds ds' true kd2 rd rd' ht hi2 hd hr, h2, hnd⟩
        | susp fn t n tm ops x o rest idx D G k k' ds ds' kd rd rd' ho hD hkk hd hr => simp at hi
      · cases hi

def resF (tm : Array Value) : ResultVar → Sem Value
  | .tmp t => pure (tm.getD t Go.undef)
  | .cell a t => do loadVar t (← asAddr (tm.getD a Go.undef))
theorem valsOf_sim (hH : HRel base W0 μ H W) {t : Tr Value} {n : Nat} {tm : Array Value} (ht : TRel μ t n tm) : ∀ (rs : List ResultVar) (vs : List Value), valsOf X t H rs = some vs →
    ∃ vs', (rs.mapM (resF tm)).run X.P W = .ok vs' W ∧ LRel μ vs vs' := by
  intro rs
  induction rs with
  | nil => intro vs h; simp [valsOf] at h; subst h; exact ⟨[], by simp, .nil⟩
  | cons r rs ih =>
    intro vs h
    simp only [valsOf] at h
    split at h
    · rename_i v l hv hl
      cases h
      obtain ⟨l', r1, r2⟩ := ih l hl
      have key : ∃ v', (resF tm r).run X.P W = .ok v' W ∧ VRel μ v v' := by
        cases r with
        | tmp i =>
          simp only [valOf, Option.some.injEq] at hv
          subst hv
          exact ⟨_, rfl, ht.2 i⟩
        | cell a ty =>
          simp only [valOf] at hv
          have ha := ht.2 a
          generalize look t a = p at ha hv
          have hres : resF tm (.cell a ty) = (do loadVar ty (← asAddr (tm.getD a Go.undef))) := rfl
          rw [hres]
          generalize tm.getD a Go.undef = q at ha
          obtain ⟨v', q1, q2⟩ := load_sim (P := X.P) hH ha hv
          refine ⟨v', ?_, q2⟩
          cases ha with
          | ptr b o T hm => simpa [Instr.loadAt, Instr.sureAddr, asAddr] using q1
          | _ => simp [iload, junk] at hv
      obtain ⟨v', k1, k2⟩ := key
      exact ⟨v' :: l', by simp only [List.mapM_cons, Sem.run_bind, k1, Result.andThen_ok, r1, Sem.run_pure], .cons k2 r2⟩
    · cases h

theorem results_sim (hH : HRel base W0 μ H W) {f : FuncId} {t : Tr Value} {n : Nat} {tm : Array Value} (ht : TRel μ t n tm) {v : Value} (h : resultsI X f t H = some v) :
    ∃ fn v', X.P.funcs[f]? = some fn ∧ (results fn tm).run X.P W = .ok v' W ∧ VRel μ v v' := by
  unfold resultsI at h
  split at h
  · rename_i fn hfn
    refine ⟨fn, ?_⟩
    have key : ∀ vs, valsOf X t H fn.results.toList = some vs → ∃ vs', (results fn tm).run X.P W = .ok (if hx : vs'.toArray.size = 1 then vs'.toArray[0] else .tuple vs'.toArray) W ∧ LRel μ vs vs' := by
      intro vs hvs
      obtain ⟨vs', r1, r2⟩ := valsOf_sim hH ht _ _ hvs
      refine ⟨vs', ?_, r2⟩
      unfold results
      have hm : (fn.results.mapM (resF tm)).run X.P W = .ok vs'.toArray W := by
        rw [Array.mapM_eq_mapM_toList]
        simp only [Sem.run_map, r1, Result.andThen_ok]
      have he : results fn tm = (do let vs ← fn.results.mapM (resF tm); pure (if h : vs.size = 1 then vs[0] else .tuple vs)) := by
        unfold results
        congr 1
      unfold results at he
      rw [he]
      simp only [Sem.run_bind, hm, Result.andThen_ok, Sem.run_pure]
    split at h
    · rename_i v0 hvs
      cases h
      obtain ⟨vs', r1, r2⟩ := key _ hvs
      cases r2 with
      | cons h1 h2 =>
        cases h2
        exact ⟨_, hfn, r1, by simpa using h1⟩
    · rename_i l hne hvs
      cases h
      obtain ⟨vs', r1, r2⟩ := key _ hvs
      have hlen := r2.length
      refine ⟨_, hfn, r1, ?_⟩
      have hne1 : ¬ vs'.toArray.size = 1 := by
        intro e
        rw [List.size_toArray, ← hlen] at e
        obtain ⟨a, ha⟩ := List.length_eq_one_iff.1 e
        exact hne a ha
      rw [dif_neg hne1]
      exact VRel.tuple_iff.2 ⟨_, rfl, by simpa using r2⟩
    · cases h
  · cases h

end
end Go.Ideal
