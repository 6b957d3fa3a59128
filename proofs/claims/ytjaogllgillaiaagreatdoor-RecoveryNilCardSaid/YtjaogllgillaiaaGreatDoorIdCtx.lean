/-
  Part of the proof: the machine that runs a program by fixed orders, and that each of its runs is a run of the model; or a run of it in parts. No conditions.
-/
import Derived.Test.YtjaogllgillaiaaGreatDoorIdLift2
namespace Go.Ideal

/-! Functions that are known by what they do. -/
def baseX (P : Program) (laid : List (Nat × List Value)) : Ctx := ⟨P, laid, fun _ => none, planOf P⟩
/-- Called in whatever heap, the function does what 'F' says. -/
def IOk (P : Program) (laid : List (Nat × List Value)) (f : FuncId) (F : IFun) : Prop :=
  (∃ n c, entry P f = some (n, c)) ∧ ∀ base W0 μ H W (args : List Value) (args' : Array Value) v H', LaidW (baseX P laid) base W0 → HRel base W0 μ H W → LaidRel (baseX P laid) μ → LRel μ args args'.toList → F args H = some (v, H') →
    Calls P f args' W fun e W' => ∃ v' μ', e = .returned v' ∧ HRel base W0 μ' H' W' ∧ VRel μ' v v' ∧ Evolve μ H μ' H'
noncomputable def lookI : List (FuncId × IFun) → FuncId → Option IFun
  | [], _ => none
  | p :: r, f => bif Nat.beq p.1 f then some p.2 else lookI r f
noncomputable def ctxI (P : Program) (laid : List (Nat × List Value)) (fs : List (FuncId × IFun)) : Ctx := ⟨P, laid, lookI fs, planOf P⟩
theorem lookI_mem : ∀ {fs : List (FuncId × IFun)} {f : FuncId} {F : IFun}, lookI fs f = some F → (f, F) ∈ fs := by
  intro fs
  induction fs with
  | nil => intro f F h; cases h
  | cons p r ih =>
    intro f F h
    unfold lookI at h
    cases hb : Nat.beq p.1 f
    · rw [hb] at h; exact List.mem_cons_of_mem _ (ih h)
    · rw [hb] at h; cases h
      have := Nat.eq_of_beq_eq_true hb
      rw [← this]; simp
/-- All of them are. -/
def AllOk (P : Program) (laid : List (Nat × List Value)) (fs : List (FuncId × IFun)) : Prop := ∀ p ∈ fs, IOk P laid p.1 p.2
theorem AllOk.nil (P : Program) (laid : List (Nat × List Value)) : AllOk P laid [] := fun _ h => by cases h
theorem AllOk.cons {P : Program} {laid : List (Nat × List Value)} {f : FuncId} {F : IFun} {fs : List (FuncId × IFun)} (h : IOk P laid f F) (h' : AllOk P laid fs) : AllOk P laid ((f, F) :: fs) := by
  intro p hp
  rcases List.mem_cons.1 hp with rfl | hp
  · exact h
  · exact h' p hp
theorem AllOk.intr {P : Program} {laid : List (Nat × List Value)} {fs : List (FuncId × IFun)} (h : AllOk P laid fs) (base : Env) (W0 : World) (hW : LaidW (ctxI P laid fs) base W0) : IntrOk (ctxI P laid fs) base W0 := by
  intro f F hf
  have hp := h _ (lookI_mem hf)
  exact ⟨hp.1, fun μ H W args args' v H' hH hl ha hF => hp.2 base W0 μ H W args args' v H' hW hH hl ha hF⟩

/-- A function of plain arguments that gives a plain value. -/
theorem iok_pure {P : Program} {laid : List (Nat × List Value)} {fs : List (FuncId × IFun)} (hfs : AllOk P laid fs) (hm : P.follows .mixedOrders = true) {f : FuncId} {n N : Nat} (he : entry P f = some (n, pcOf P f [])) (hN : (laid.all fun p => Nat.blt p.1 N) = true)
    {F : List Value → Option Value} (hF : ∀ args v, F args = some v → args.all flat = true ∧ args.length ≤ n ∧ flat v = true ∧ EndsIn (ctxI P laid fs) f (fun v' _ => v' = v) (startC f (fillTmps 0 args .leaf) n (pcOf P f []) (heap0 laid N))) :
    IOk P laid f (fun args H => match F args with | some v => some (v, H) | none => none) := by
  refine ⟨⟨n, _, he⟩, ?_⟩
  intro base W0 μ H W args args' v H' hW hH hl ha hFv
  have hFv : F args = some v ∧ H' = H := by
    simp only at hFv
    split at hFv
    · rename_i v0 e; cases hFv; exact ⟨e, rfl⟩
    · cases hFv
  obtain ⟨hFv2, rfl⟩ := hFv
  obtain ⟨h1, h2, h3, h4⟩ := hF args v hFv2
  have hW1 : LaidW (ctxI P laid fs) (base.at W) W := by
    have := hW.carry hH
    unfold LaidW at this ⊢
    exact this
  obtain ⟨s1, s2⟩ := start0 (X := ctxI P laid fs) hW1 (none_le _) (fun _ hi => hi) (all_lt hN)
  have hargs : args'.toList = args := flats_eq args _ h1 ha
  intro cs
  obtain ⟨c', ⟨v2, Hf, hd, rfl⟩, μ1, fr1, cs1, W1, st, m1⟩ := h4 (base.at W) W (hfs.intr _ _ hW1) (planOk_of hm rfl) cs _ _ [] W (start_rel s1 s2 he (by rw [hargs]; exact flats_refl args h1) h2)
  obtain ⟨rfl, hf, v', e1, e2, e3⟩ := done_rel m1 hd
  have hs' : Steps (ctxI P laid fs).P (lone (Frame.enter (ctxI P laid fs).P f args' .normal) cs W) (lone fr1 cs W1) := by simpa using st
  refine ⟨.returned v', W1, fr1, ⟨v', μ, rfl, hH.carry (size_of_kept e2) e2.below e2.out e2.os, ?_, Evolve.refl _ _⟩, hs', hf, e1⟩
  rw [flat_eq h3 e3]; exact flat_refl h3

/-- A function whose value is known. -/
theorem iok_known {P : Program} {laid : List (Nat × List Value)} {k : Known} (h : KnownOk P laid k) : IOk P laid k.f (knownF k) := by
  refine ⟨h.1, ?_⟩
  intro base W0 μ H W args args' v H' hW hH hl ha hF
  unfold knownF at hF
  cases hb : sameL (sameN 8) args k.args
  · rw [hb] at hF; cases hF
  · rw [hb] at hF; cases hF
    obtain rfl := sameL_eq (sameN_eq 8) _ _ hb
    exact h.2 base W0 μ H W args' hW hH ha
end Go.Ideal
