/-
  Part of the proof: the machine that runs a program by fixed orders, and that each of its runs is a run of the model; or a run of it in parts. No conditions.
-/
import Derived.Test.YtfgamdmnljnonaaGreatDoorIdCtx2
import Derived.Test.YtfgamdmnljnonaaGreatDoorC41r17
set_option maxRecDepth 1000000
namespace Go.Ideal
open Go.Proofs
theorem pf_cons {X : Ctx} {f : FuncId} {p : PFun} {rest : Pf} (h : ∀ args H (K : Value → IHeap → Prop), p args H K → ∃ v H', intrAt X f args .normal H = some (v, H') ∧ K v H') (hr : PfOk X rest) : PfOk X (fun g => bif Nat.beq g f then some p else rest g) := by
  intro g F hg args H K hF
  cases hb : Nat.beq g f
  · simp only [hb, cond_false] at hg
    exact hr g F hg args H K hF
  · simp only [hb, cond_true, Option.some.injEq] at hg
    subst hg
    have := Nat.eq_of_beq_eq_true hb; subst this
    exact h args H K hF
structure PlainF where
  ok : List Value → Prop
  v : List Value → Value
open Classical in
noncomputable def PlainF.F (q : PlainF) : IFun := fun args H => if q.ok args then some (q.v args, H) else none
noncomputable def PlainF.p (q : PlainF) : PFun := fun args H K => q.ok args ∧ K (q.v args) H
theorem PlainF.p_ok {q : PlainF} {X : Ctx} {f : FuncId} (hX : X.intr f = some q.F) (args : List Value) (H : IHeap) (K : Value → IHeap → Prop) (h : q.p args H K) : ∃ v H', intrAt X f args .normal H = some (v, H') ∧ K v H' := by
  refine ⟨q.v args, H, ?_, h.2⟩
  unfold intrAt
  simp only [hX]
  unfold PlainF.F
  exact if_pos h.1
theorem iok_plain {fs : List (FuncId × IFun)} (hfs : AllOk Tryz.prog tabLaid fs) {f : FuncId} {n : Nat} (he : entry Tryz.prog f = some (n, pcOf Tryz.prog f [])) {q : PlainF}
    (hF : ∀ args, q.ok args → args.all flat = true ∧ args.length ≤ n ∧ flat (q.v args) = true ∧ EndsN (ctxI Tryz.prog tabLaid fs) 20 f (fun v' _ => v' = q.v args) (st f n args hp0)) : IOk Tryz.prog tabLaid f q.F := by
  refine ⟨⟨n, _, he⟩, ?_⟩
  intro base W0 μ H W args args' v H' hW hH hl ha hFv
  unfold PlainF.F at hFv
  split at hFv
  · rename_i hq
    cases hFv
    obtain ⟨h1, h2, h3, h4⟩ := hF args hq
    have hW1 : LaidW (ctxI Tryz.prog tabLaid fs) (base.at W) W := by
      have := hW.carry hH
      unfold LaidW at this ⊢
      exact this
    obtain ⟨s1, s2⟩ := start0 (X := ctxI Tryz.prog tabLaid fs) hW1 (none_le _) (fun _ hi => hi) (n := 20) (all_lt (by kernel_rfl))
    have s3 := s1.sub (H' := hp0) (fun b o e => by cases e) (heap0_next _ _).symm
    have hargs : args'.toList = args := flats_eq args _ h1 ha
    intro cs
    obtain ⟨c', ⟨v2, Hf, hd, rfl⟩, μ1, fr1, cs1, W1, st, m1⟩ := h4 (base.at W) W (fun b T hb => by cases hb) (hfs.intr _ _ hW1) (planOk_of (by kernel_rfl) rfl) cs _ _ [] W (start_rel s3 s2 he (by rw [hargs]; exact flats_refl args h1) h2)
    obtain ⟨rfl, hf, v', e1, e2, e3⟩ := done_rel m1 hd
    have hs' : Steps (ctxI Tryz.prog tabLaid fs).P (lone (Frame.enter (ctxI Tryz.prog tabLaid fs).P f args' .normal) cs W) (lone fr1 cs W1) := by simpa using st
    refine ⟨.returned v', W1, fr1, ⟨v', μ, rfl, hH.carry (size_of_kept e2) e2.below e2.out e2.os, ?_, Evolve.refl _ _⟩, hs', hf, e1⟩
    rw [flat_eq h3 e3]; exact flat_refl h3
  · cases hFv
end Go.Ideal
