/-
  Part of the proof: the machine that runs a program by fixed orders, and that each of its runs is a run of the model; or a run of it in parts. No conditions.
-/
import Derived.Test.YtnonaponcjffjaaGreatDoorC45h
import Derived.Test.YtnonaponcjffjaaGreatDoorWrkK
import Derived.Test.YtnonaponcjffjaaGreatDoorIdRow2
import Derived.Test.YtnonaponcjffjaaGreatDoorChecked
set_option maxRecDepth 1000000
namespace Go.Ideal
open Go.Proofs Go.ChangeShapes
theorem okWide_plain {P : Program} {W : World} {r : Go.Reach} {b : Nat} {t : TypeId} {v : Value} {D : TypeDesc} (hu : P.underlying t = some D) (hD : (match D with | .struct _ => false | .array _ _ => false | _ => true) = true) (h : Value.okWide P W r b t v) : Cell.okWide P W r b t v := by
  unfold Value.okWide at h
  rw [hu] at h
  cases D <;> first | exact h | cases hD
theorem has_u32 {n : Int} (h : IntKind.has .u32 n) : u32In n := by
  have h1 : (0 : Int) ≤ n := h.1
  have h2 : n ≤ 4294967295 := h.2
  unfold u32In; omega
theorem has_u16 {n : Int} (h : IntKind.has .u16 n) : 0 ≤ n ∧ n < 65536 := by
  have h1 : (0 : Int) ≤ n := h.1
  have h2 : n ≤ 65535 := h.2
  omega
theorem wf_u16 {n : Int} (h : (Lit.int .u16 n).wf = true) : 0 ≤ n ∧ n < 65536 := by
  unfold Lit.wf at h
  simp only [Bool.and_eq_true, decide_eq_true_eq] at h
  have h1 : (0 : Int) ≤ n := h.1
  have h2 : n ≤ 65535 := h.2
  omega
section
variable {H : Type} {enc : TypeId × Value → H} {W : World} {base : Nat} {args : Array Value} {ds : List (DataW H)} {ps : List MemPlace}
theorem grow_calls (hval : ∀ (j : Nat) t v, Tryz.f5.params[j]? = some t → args[j]? = some v → Value.okWide Tryz.prog W .any base t v) (hA : DataW.TrodAll enc Tryz.prog W 0 (fun _ => true) true Tryz.f5.params.toList args.toList ds ps)
    (hL0 : LaidW XGr (env0 W) W) : Calls Tryz.prog 5 args W fun e W' => e = .returned (.bool true) ∧ OldKept W W' := by
  rw [Tryz.params5] at hA hval
  obtain ⟨v0, v1, v2, v3, d0, d1, d2, d3, p0, p1, p2, p3, rfl, _, _, _, _, _, _⟩ := Go.RowKit.trodAll_four hA
  obtain ⟨cs, rfl, hf⟩ := fits_agg (ts := [30, 30, 30, 30, 30, 30, 30]) (by kernel_rfl) (by kernel_rfl) (by kernel_rfl) (hval 0 31 v0 rfl rfl)
  cases hf with | cons c0 hf =>
  cases hf with | cons c1 hf =>
  cases hf with | cons c2 hf =>
  cases hf with | cons c3 hf =>
  cases hf with | cons c4 hf =>
  cases hf with | cons c5 hf =>
  cases hf with | cons c6 hf =>
  cases hf
  obtain ⟨n0, rfl, h0⟩ := fit_int Tryz.underlying30 c0
  obtain ⟨n1, rfl, h1⟩ := fit_int Tryz.underlying30 c1
  obtain ⟨n2, rfl, h2⟩ := fit_int Tryz.underlying30 c2
  obtain ⟨n3, rfl, h3⟩ := fit_int Tryz.underlying30 c3
  obtain ⟨n4, rfl, h4⟩ := fit_int Tryz.underlying30 c4
  obtain ⟨n5, rfl, h5⟩ := fit_int Tryz.underlying30 c5
  obtain ⟨n6, rfl, h6⟩ := fit_int Tryz.underlying30 c6
  obtain ⟨x1, rfl, e1⟩ := fit_int Tryz.underlying34 (okWide_plain Tryz.underlying34 rfl (hval 1 34 v1 rfl rfl))
  obtain ⟨x2, rfl, e2⟩ := fit_int Tryz.underlying34 (okWide_plain Tryz.underlying34 rfl (hval 2 34 v2 rfl rfl))
  obtain ⟨x3, rfl, e3⟩ := fit_int Tryz.underlying34 (okWide_plain Tryz.underlying34 rfl (hval 3 34 v3 rfl rfl))
  obtain ⟨s1, s2⟩ := start0 (X := XGr) hL0 (none_le _) (fun _ hi => hi) (n := 20) (all_lt (by kernel_rfl))
  refine walk_ends (X := XGr) ((allG wrkKnown).intr _ _ hL0) (planOk_of (by kernel_rfl) rfl) (n := 124) (by kernel_rfl) s1 s2 (args := [nV n0 n1 n2 n3 n4 n5 n6, .int .u16 x1, .int .u16 x2, .int .u16 x3])
    (.cons (VRel.agg_iff.2 ⟨_, rfl, ?_⟩) (.cons (.int _ _) (.cons (.int _ _) (.cons (.int _ _) .nil)))) (by simp)
    (grows_ends n0 n1 n2 n3 n4 n5 n6 x1 x2 x3 (has_u32 h0) (has_u32 h1) (has_u32 h2) (has_u32 h3) (has_u32 h4) (has_u32 h5) (has_u32 h6) (has_u16 e1) (has_u16 e2) (has_u16 e3)) rfl
  exact .cons (.int _ _) (.cons (.int _ _) (.cons (.int _ _) (.cons (.int _ _) (.cons (.int _ _) (.cons (.int _ _) (.cons (.int _ _) .nil))))))
end
end Go.Ideal
