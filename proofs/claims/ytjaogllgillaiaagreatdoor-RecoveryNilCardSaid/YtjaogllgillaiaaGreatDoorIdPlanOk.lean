/-
  Part of the proof: the machine that runs a program by fixed orders, and that each of its runs is a run of the model; or a run of it in parts. No conditions.
-/
import Derived.Test.YtjaogllgillaiaaGreatDoorIdRun
namespace Go.Ideal

theorem chks_wf {P : Program} {ops : Array Oper} {done : List Nat} {x : Oper} : PlanWf ops (chksOf P ops.toList done x) := by
  intro e he
  unfold chksOf at he
  obtain ⟨j, _, hj⟩ := List.mem_filterMap.1 he
  split at hj
  · rename_i o ho
    cases hb : (Nat.beq (clsOf P o) 0 && !((ancOf ops.toList x).any (Nat.beq j)))
    · rw [hb] at hj; cases hj
    · rw [hb] at hj; cases hj
      show ops[j]? = some o
      rw [← Array.getElem?_toList]; exact ho
  · cases hj

theorem planGo_wf {P : Program} {ops : Array Oper} : ∀ (f : Nat) (done : List Nat) (p : List PE), planGo P ops.toList f done = some p → PlanWf ops p := by
  have key : ∀ {q : Oper × Nat → Bool} {o : Oper} {i : Nat}, ops.toList.zipIdx.find? q = some (o, i) → ops[i]? = some o := by
    intro q o i h
    have := List.mem_of_find?_eq_some h
    have := List.mem_zipIdx_iff_getElem?.1 this
    rw [← Array.getElem?_toList]
    exact this
  intro f
  induction f with
  | zero =>
    intro done p h
    unfold planGo at h
    cases hb : Nat.beq done.length ops.toList.length
    · rw [hb] at h; cases h
    · rw [hb] at h; cases h; intro e he; cases he
  | succ f ih =>
    intro done p h
    unfold planGo at h
    split at h
    · rename_i o i hf
      rw [Option.map_eq_some_iff] at h
      obtain ⟨r, hr, rfl⟩ := h
      intro e he
      rcases List.mem_cons.1 he with rfl | he
      · exact key hf
      · exact ih _ _ hr e he
    · split at h
      · rename_i o i hf
        rw [Option.map_eq_some_iff] at h
        obtain ⟨r, hr, rfl⟩ := h
        intro e he
        rcases List.mem_cons.1 he with rfl | he
        · exact key hf
        · rcases List.mem_append.1 he with he | he
          · exact chks_wf e he
          · exact ih _ _ hr e he
      · cases h

theorem planOk_of {X : Ctx} (hm : X.P.follows .mixedOrders = true) (hp : X.plan = planOf X.P) : PlanOk X := by
  refine ⟨hm, fun ops p h => ?_⟩
  rw [hp] at h
  unfold planOf at h
  split at h
  · rename_i p' hg
    cases hb : (okStat X.P ops && okPlan X.P ops [] p')
    · rw [hb] at h; cases h
    · rw [hb] at h; cases h
      rw [Bool.and_eq_true] at hb
      exact ⟨hb.1, planGo_wf _ _ _ hg, hb.2⟩
  · cases h

end Go.Ideal
