/-
  Part of the proof: the machine that runs a program by fixed orders, and that each of its runs is a run of the model; or a run of it in parts. No conditions.
-/
import Derived.Test.YtidglbgpoagjlaaGreatDoorIdSim3
namespace Go.Ideal
section
variable {X : Ctx} {base : Env} {W0 : World} {μ : Inj} {H : IHeap} {W : World}

/-- The loop of a round, changed. -/
theorem loop_put (hH : HRel base W0 μ H W) {l : Nat} {T : Tgt} {q : ILoop} (hget : H.get l = some (.loop q)) (hT : μ l = some T) :
    ∃ r : Loop, W.heap[T.c]? = some (.loop r) ∧ r.state = q.state ∧ r.pending = q.pending ∧ ∀ st pe, HRel base W0 μ (H.put l (.loop { q with state := st, pending := pe })) { W with heap := W.heap.setIfInBounds T.c (.loop { r with state := st, pending := pe }) } ∧
      Evolve μ H μ (H.put l (.loop { q with state := st, pending := pe })) := by
  obtain ⟨o', ho', hor⟩ := hH.obj l _ hget T hT
  cases hor with
  | loop _ a R ht hd =>
    refine ⟨_, ho', rfl, rfl, fun st pe => ?_⟩
    exact hH.setObj (o1 := .loop { q with state := st, pending := pe }) hget rfl hT (.loop T { q with state := st, pending := pe } a R ht hd)

theorem leaveI_sim {gs : List Nat} {fn : FuncId} {t : Tr Value} {n : Nat} {tm : Array Value} {todo : List IItem} {todo' : List Item} {ds ds' : List Deferred} {kd : CallKind} {rd rd' : Option Nat} {cs : List IFrame} {cs' cs0 : List Frame} {c' : Cfg} {j : Option Code}
    (hH : HRel base W0 μ H W) (hlaid : LaidRel X μ) (ht : TRel μ t n tm) (hi : ItsRel μ todo todo') (hd : DefsRel μ ds ds') (hrd : RdRel μ rd rd') (hcs : FsRel X μ H gs cs cs') (hnd : gs.Nodup)
    (hj : (todo' = [] ∧ j = none) ∨ (∃ k, todo' = .code .ret :: k ∧ j = some .ret) ∨ ∃ id k, todo' = .code (.exit id) :: k ∧ exitTo id k = none ∧ j = some (.exit id))
    (h : leaveI j ⟨fn, t, n, todo, ds, false, kd, rd⟩ cs H = some c') : StepSim X base W0 cs0 c' (lone ⟨fn, tm, todo', ds', .run, kd, rd'⟩ (cs' ++ cs0) W) := by
  unfold leaveI at h
  simp only at h
  cases hrd with
  | none =>
    simp only at h
    have fin : ∀ (hh : todo' = [] ∨ ∃ k, todo' = .code .ret :: k), c' = ⟨⟨fn, t, n, todo, ds, true, kd, none⟩, cs, H⟩ → StepSim X base W0 cs0 c' (lone ⟨fn, tm, todo', ds', .run, kd, none⟩ (cs' ++ cs0) W) := by
      rintro hh rfl
      exact ⟨μ, _, cs', W, .one (c_leave todo' hh), hH, hlaid, [], gs, .plain fn t n tm todo todo' ds ds' true kd none none ht hi hd .none, hcs, hnd⟩
    rcases hj with ⟨h1, rfl⟩ | ⟨k, h1, rfl⟩ | ⟨id, k, h1, h2, rfl⟩
    · simp only [Option.some.injEq] at h; exact fin (.inl h1) h.symm
    · simp only [Option.some.injEq] at h; exact fin (.inr ⟨k, h1⟩) h.symm
    · simp at h
  | some l T hT =>
    simp only at h
    split at h
    · rename_i q hget
      obtain ⟨r, hr, hst, hpe, hput⟩ := loop_put hH hget hT
      have main : ∀ st, (st = if j.isNone then LoopState.ready else .done) → returnI kd (.bool j.isNone) cs (H.put l (.loop { q with state := st, pending := j })) = some c' →
          StepSim X base W0 cs0 c' (lone ⟨fn, tm, todo', ds', .run, kd, some T.c⟩ (cs' ++ cs0) W) := by
        intro st hst' h
        obtain ⟨p1, p2⟩ := hput st j
        refine returnI_sim p1 hlaid (hcs.mono (p2.keeps gs)) hnd (.bool j.isNone) (fun c rest hc hk => ?_) (fun c rest hc hk hmode => ?_) h
        · subst hk; subst hc; subst hst'
          exact .one (c_endRound hr hj)
        · subst hk
          subst hc; subst hst'
          refine .one ?_
          have hre := run_endRound (P := X.P) (j := j) hr
          obtain ⟨a1, a2, a3, a4, a5, a6, a7⟩ := c
          simp only at hmode
          subst hmode
          rcases hj with ⟨rfl, rfl⟩ | ⟨k, rfl, rfl⟩ | ⟨id, k, rfl, he, rfl⟩
          · exact step_lone_go (by simp [stepG, stepG.exec, hre, doReturn])
          · exact step_lone_go (by simp [stepG, stepG.exec, hre, doReturn])
          · exact step_lone_go (by simp [stepG, stepG.exec, hre, doReturn, he])
      cases j with
      | none => exact main .ready rfl h
      | some j => exact main .done rfl h
    · cases h

theorem stepRet_sim {gs : List Nat} {fn : FuncId} {t : Tr Value} {n : Nat} {tm : Array Value} {todo : List IItem} {todo' : List Item} {ds ds' : List Deferred} {kd : CallKind} {rd rd' : Option Nat} {cs : List IFrame} {cs' cs0 : List Frame} {c' : Cfg}
    (hH : HRel base W0 μ H W) (hlaid : LaidRel X μ) (ht : TRel μ t n tm) (hi : ItsRel μ todo todo') (hd : DefsRel μ ds ds') (hrd : RdRel μ rd rd') (hcs : FsRel X μ H gs cs cs') (hnd : gs.Nodup)
    (h : stepRet X ⟨fn, t, n, todo, ds, true, kd, rd⟩ cs H = some c') : StepSim X base W0 cs0 c' (lone ⟨fn, tm, todo', ds', .returning, kd, rd'⟩ (cs' ++ cs0) W) := by
  unfold stepRet at h
  simp only at h
  cases hd with
  | nil =>
    simp only at h
    split at h
    · rename_i v hres
      obtain ⟨f, v', hf, hrun, hv⟩ := results_sim hH ht hres
      refine returnI_sim hH hlaid hcs hnd hv (fun c rest hc hk => ?_) (fun c rest hc hk hmode => ?_) h
      · subst hk; subst hc; exact .one (c_return hf hrun)
      · subst hk; subst hc
        exact .one (c_returnD hf hrun (.inl hmode))
    · cases h
  | @cons d d' l l' hdr hdt =>
    obtain ⟨tgt, args⟩ := d
    obtain ⟨tgt', args'⟩ := d'
    obtain ⟨htg, hargs⟩ := hdr
    simp only at h htg hargs
    split at h
    · rename_i b
      cases htg with
      | collected _ T hT =>
        split at h
        · rename_i q hget
          cases h
          obtain ⟨o', ho', hor⟩ := hH.obj b _ hget T hT
          cases hor with
          | deferred _ q' hq =>
            obtain ⟨g1, g2⟩ := hH.setObj (o1 := .deferred none) (o1' := .deferred none) hget rfl hT (.deferredNone T)
            have hrun : (Instr.takeDeferred T.c).run X.P W = .ok q' { W with heap := W.heap.setIfInBounds T.c (.deferred none) } := by
              simp [Instr.takeDeferred, run_getObj' (P := X.P) ho' (by intro c t f; simp), run_setObj' (P := X.P) ho' (by intro c t f; simp)]
            exact ⟨μ, _, cs', _, .one (c_retCollected hrun), g1, hlaid, [], gs, .plain fn t n tm todo todo' _ _ true kd rd rd' ht hi (hq.append hdt) hrd, hcs.mono (g2.keeps gs), hnd⟩
        · cases h
    · rename_i g captured
      cases htg with
      | fn _ fn' _ ys' hfn hy =>
        cases hfn
        -- entering with the kind of a deferred call
        unfold enterI at h
        split at h
        · cases h
        · split at h
          · rename_i nn cc he
            cases hle : Nat.ble (args.toList ++ captured.toList).length nn
            · simp only [hle, cond_false] at h; cases h
            · simp only [hle, cond_true, Option.some.injEq] at h
              subst h
              have hal : LRel μ (args.toList ++ captured.toList) (args' ++ ys').toList := by simp only [Array.toList_append]; exact hargs.append hy
              refine ⟨μ, _, ⟨fn, tm, todo', l', .returning, kd, rd'⟩ :: cs', W, .one (c_retDefer (d := ⟨.fn (.func g) ys', args'⟩) (f := g) (args := args' ++ ys') (by intro b e; cases e) ?_), hH, hlaid, [], [] ++ gs, ?_, .cons ?_ hcs, hnd⟩
              · simp only [invoke]; exact run_callFunc he _ W
              · rw [enter_eq he]
                exact .plain g _ nn _ _ _ [] [] false .deferred none none (enter_rel hal (Nat.le_of_ble_eq_true hle)) (.cons (.code cc) .nil) .nil .none
              · exact .plain fn t n tm todo todo' l l' true kd rd rd' ht hi hdt hrd
          · cases h
    · cases h

end
end Go.Ideal
