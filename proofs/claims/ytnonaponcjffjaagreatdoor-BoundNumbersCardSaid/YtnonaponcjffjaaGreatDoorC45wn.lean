/-
  Part of the proof: the machine that runs a program by fixed orders, and that each of its runs is a run of the model; or a run of it in parts. No conditions.
-/
import Derived.Test.YtnonaponcjffjaaGreatDoorC45c
import Derived.Test.YtnonaponcjffjaaGreatDoorWrkK
import Derived.Test.YtnonaponcjffjaaGreatDoorIdRow2
import Derived.Test.YtnonaponcjffjaaGreatDoorChecked
set_option maxRecDepth 1000000
namespace Go.Ideal
open Go.Proofs Go.ChangeShapes
theorem okWide_plain {P : Program} {W : World} {r : Go.Reach} {b : Nat} {t : TypeId} {v : Value} {D : TypeDesc} (hu : P.underlying t = some D) (hD : (match D with | .struct _ => false | .array _ _ => false | _ => true) = true) (h : Value.okWide P W r b t v) : Cell.okWide P W r b t v := by
  unfold Value.okWide at h
  rw [hu] at h
  cases D <;> first | exact h | cases hD
section
variable {H : Type} {enc : TypeId × Value → H} {W : World} {base : Nat} {args : Array Value} {ds : List (DataW H)} {ps : List MemPlace}
theorem num_calls (hval : ∀ (j : Nat) t v, Tryz.f3.params[j]? = some t → args[j]? = some v → Value.okWide Tryz.prog W .any base t v) (hA : DataW.TrodAll enc Tryz.prog W 0 (fun _ => true) true Tryz.f3.params.toList args.toList ds ps)
    (hL0 : LaidW XNum (env0 W) W) : Calls Tryz.prog 3 args W fun e W' => e = .returned (.bool true) ∧ OldKept W W' := by
  rw [Tryz.params3] at hA hval
  obtain ⟨v0, v1, d0, d1, p0, p1, rfl, _, _, _, _⟩ := trodAll_two hA
  obtain ⟨cs, rfl, hf⟩ := fits_agg (ts := [3, 3, 3, 3, 3, 3, 3]) (by kernel_rfl) (by kernel_rfl) (by kernel_rfl) (hval 0 23 v0 rfl rfl)
  cases hf with | cons c0 hf =>
  cases hf with | cons c1 hf =>
  cases hf with | cons c2 hf =>
  cases hf with | cons c3 hf =>
  cases hf with | cons c4 hf =>
  cases hf with | cons c5 hf =>
  cases hf with | cons c6 hf =>
  cases hf
  obtain ⟨s, rfl, _⟩ := fit_int Tryz.underlying3 c0
  obtain ⟨z, rfl, _⟩ := fit_int Tryz.underlying3 c1
  obtain ⟨r, rfl, _⟩ := fit_int Tryz.underlying3 c2
  obtain ⟨w, rfl, _⟩ := fit_int Tryz.underlying3 c3
  obtain ⟨k, rfl, _⟩ := fit_int Tryz.underlying3 c4
  obtain ⟨v, rfl, _⟩ := fit_int Tryz.underlying3 c5
  obtain ⟨po, rfl, _⟩ := fit_int Tryz.underlying3 c6
  obtain ⟨x, rfl, _⟩ := fit_int Tryz.underlying3 (okWide_plain Tryz.underlying3 rfl (hval 1 3 v1 rfl rfl))
  obtain ⟨s1, s2⟩ := start0 (X := XNum) hL0 (none_le _) (fun _ hi => hi) (n := 20) (all_lt (by kernel_rfl))
  refine walk_ends (X := XNum) ((allM wrkKnown).intr _ _ hL0) (planOk_of (by kernel_rfl) rfl) (n := 80) (by kernel_rfl) s1 s2 (args := [cfgV s z r w k v po, .int .i64 x]) (.cons (VRel.agg_iff.2 ⟨_, rfl, ?_⟩) (.cons (.int _ _) .nil)) (by simp) (num_ends s z r w k v po x) rfl
  exact .cons (.int _ _) (.cons (.int _ _) (.cons (.int _ _) (.cons (.int _ _) (.cons (.int _ _) (.cons (.int _ _) (.cons (.int _ _) .nil))))))
end
end Go.Ideal
