/-
  Part of the proof: the machine that runs a program by fixed orders, and that each of its runs is a run of the model; or a run of it in parts. No conditions.
-/
import Derived.Test.YtihjcloanpfkaaaGreatDoorIdRow
import Derived.Test.YtihjcloanpfkaaaGreatDoorC41r17
import Derived.Test.YtihjcloanpfkaaaGreatDoorChecked
import Derived.Test.YtihjcloanpfkaaaGreatDoorRepB41r
import Derived.Test.YtihjcloanpfkaaaGreatDoorWrkK
namespace Go.Ideal
theorem laidVars_at {P : Program} {w : World} : ∀ (laid : List (String × DataW Unit)) (ps : List MemPlace), DataW.LaidVars P w laid ps → ∀ (n : Nat) (x : String × DataW Unit) (p : Nat × List Value), laid[n]? = some x → laidOf P x = some p → ∃ a t fz, w.heap[p.1]? = some (.cells a t fz) ∧ a.toList = p.2 := by
  intro laid
  induction laid with
  | nil => intro ps _ n x p hx; simp at hx
  | cons y laid ih =>
    intro ps hl n x p hx h0
    obtain ⟨nm, d⟩ := y
    obtain ⟨g, t, cs, fuel, p1, q1, h1, h2, h3, h4, h5, _⟩ := hl
    cases n with
    | zero =>
      simp only [List.getElem?_cons_zero, Option.some.injEq] at hx
      subst hx
      simp only [laidOf, h1, Option.bind_some, h2, Option.map_eq_some_iff] at h0
      obtain ⟨l, hl, rfl⟩ := h0
      simp only [World.var?, h1, Option.bind_some] at h3
      split at h3
      · rename_i cs' t' fz hh
        cases h3
        exact ⟨_, _, _, hh, back_ok 12 fuel t _ d p1 l h4 hl⟩
      · cases h3
    | succ n => exact ih q1 h5 n x p (by simpa using hx) h0
/-- Some of what the row lists, by their places. -/
theorem laidW_at {X : Ctx} {laid : List (String × DataW Unit)} {W : World} (hL : laidMetH X.P laid W) (hp : (laid.all fun x => x.2.handleName?.isNone) = true) (ns : List Nat) (hm : (ns.map fun n => (laid[n]?).bind (laidOf X.P)) = X.laid.map some) (hnd : (X.laid.map Prod.fst).Nodup) (hf : (X.laid.all fun p => p.2.all flat) = true) : LaidW X (env0 W) W := by
  rw [MakeChecks.laidMetH_plain _ _ _ hp] at hL
  obtain ⟨ps, h1, _⟩ := hL
  refine ⟨hnd, fun p hp => ?_⟩
  have hmem : some p ∈ ns.map fun n => (laid[n]?).bind (laidOf X.P) := by rw [hm]; exact List.mem_map_of_mem hp
  obtain ⟨n, _, hn⟩ := List.mem_map.1 hmem
  rw [Option.bind_eq_some_iff] at hn
  obtain ⟨x, hx, hxp⟩ := hn
  obtain ⟨a, t, fz, h2, h3⟩ := laidVars_at laid ps h1 n x p hx hxp
  refine ⟨?_, List.all_eq_true.1 hf p hp, a, t, fz, h2, h3⟩
  exact (Array.getElem?_eq_some_iff.1 h2).1
end Go.Ideal

set_option maxRecDepth 1000000
namespace Go.Ideal
open Go.Proofs Go.ChangeShapes
theorem okWide_plain' {P : Program} {W : World} {r : Go.Reach} {b : Nat} {t : TypeId} {v : Value} {D : TypeDesc} (hu : P.underlying t = some D) (hD : (match D with | .struct _ => false | .array _ _ => false | _ => true) = true) (h : Value.okWide P W r b t v) : Cell.okWide P W r b t v := by
  unfold Value.okWide at h
  rw [hu] at h
  cases D <;> first | exact h | cases hD
theorem has_u64 {n : Int} (h : IntKind.has .u64 n) : seedIn n := by
  have h1 : (0 : Int) ≤ n := h.1
  have h2 : n ≤ 18446744073709551615 := h.2
  unfold seedIn; omega
section
variable {H : Type} {enc : TypeId × Value → H} {W : World} {base : Nat} {args : Array Value} {ds : List (DataW H)} {ps : List MemPlace}
theorem rnd_calls (hw : KnownOk Tryz.prog tabLaid wrkK) (hB : AllOk Tryz.prog tabLaid bFs)
    (hval : ∀ (j : Nat) t v, Tryz.f3.params[j]? = some t → args[j]? = some v → Value.okWide Tryz.prog W .any base t v) (hA : DataW.TrodAll enc Tryz.prog W 0 (fun _ => true) true Tryz.f3.params.toList args.toList ds ps)
    (hL0 : LaidW XRn (env0 W) W) : Calls Tryz.prog 3 args W fun e W' => e = .returned (.bool true) ∧ OldKept W W' := by
  rw [Tryz.params3] at hA hval
  obtain ⟨v0, v1, v2, v3, d0, d1, d2, d3, p0, p1, p2, p3, rfl, _, _, _, _, _, _⟩ := Go.RowKit.trodAll_four hA
  obtain ⟨cs, rfl, hf⟩ := fits_agg (ts := [3, 3, 3, 3, 3, 3, 3]) (by kernel_rfl) (by kernel_rfl) (by kernel_rfl) (hval 0 23 v0 rfl rfl)
  cases hf with | cons c0 hf =>
  cases hf with | cons c1 hf =>
  cases hf with | cons c2 hf =>
  cases hf with | cons c3 hf =>
  cases hf with | cons c4 hf =>
  cases hf with | cons c5 hf =>
  cases hf with | cons c6 hf =>
  cases hf
  obtain ⟨s, rfl, _⟩ := fit_int Tryz.underlying3 c0
  obtain ⟨z, rfl, _⟩ := fit_int Tryz.underlying3 c1
  obtain ⟨r, rfl, _⟩ := fit_int Tryz.underlying3 c2
  obtain ⟨w, rfl, _⟩ := fit_int Tryz.underlying3 c3
  obtain ⟨k, rfl, _⟩ := fit_int Tryz.underlying3 c4
  obtain ⟨v, rfl, _⟩ := fit_int Tryz.underlying3 c5
  obtain ⟨po, rfl, _⟩ := fit_int Tryz.underlying3 c6
  obtain ⟨seed, rfl, hs⟩ := fit_int Tryz.underlying24 (okWide_plain' Tryz.underlying24 rfl (hval 1 24 v1 rfl rfl))
  obtain ⟨n, rfl, _⟩ := fit_int Tryz.underlying3 (okWide_plain' Tryz.underlying3 rfl (hval 2 3 v2 rfl rfl))
  obtain ⟨cr, rfl⟩ := fit_bool Tryz.underlying4 (okWide_plain' Tryz.underlying4 rfl (hval 3 4 v3 rfl rfl))
  obtain ⟨s1, s2⟩ := start0 (X := XRn) hL0 (none_le _) (fun _ hi => hi) (n := 20) (all_lt (by kernel_rfl))
  have s3 := s1.sub (H' := hp0) (fun b o e => by cases e) (heap0_next _ _).symm
  refine walk_ends (X := XRn) ((allM hw hB).intr _ _ hL0) (planOk_of (by kernel_rfl) rfl) (n := 47) (by kernel_rfl) s3 s2 (args := [cfgV s z r w k v po, .int .u64 seed, .int .i64 n, .bool cr]) (.cons (VRel.agg_iff.2 ⟨_, rfl, ?_⟩) (.cons (.int _ _) (.cons (.int _ _) (.cons (.bool _) .nil)))) (by simp) (rnd_ends s z r w k v po seed n cr (has_u64 hs)) rfl
  exact .cons (.int _ _) (.cons (.int _ _) (.cons (.int _ _) (.cons (.int _ _) (.cons (.int _ _) (.cons (.int _ _) (.cons (.int _ _) .nil))))))
end
end Go.Ideal

set_option maxRecDepth 1000000
namespace Go.Ideal
open Go.Proofs Go.ChangeShapes
theorem tabLaid_mem : (0, Go.Lib.pow10Tab.map fun z => Value.int .u64 z) ∈ tabLaid := List.mem_of_getElem? (i := 6) (by kernel_rfl)
theorem rnd_all {H : Type} {enc : TypeId × Value → H} {W : World} {base : Nat} {args : Array Value} {ds : List (DataW H)} {ps : List MemPlace}
    (hval : ∀ (j : Nat) t v, Tryz.f3.params[j]? = some t → args[j]? = some v → Value.okWide Tryz.prog W .any base t v) (hA : DataW.TrodAll enc Tryz.prog W 0 (fun _ => true) true Tryz.f3.params.toList args.toList ds ps)
    (hL0 : LaidW XRn (env0 W) W) : Calls Tryz.prog 3 args W fun e W' => e = .returned (.bool true) ∧ OldKept W W' :=
  rnd_calls wrkKnown (allB (itoa_ok tabLaid_mem) (join_ok _) (rep_ok _)) hval hA hL0
end Go.Ideal
