/-
  Part of the proof: the machine that runs a program by fixed orders, and that each of its runs is a run of the model; or a run of it in parts. No conditions.
-/
import Derived.Test.YtihjcloanpfkaaaGreatDoorC41i
import Derived.Test.YtihjcloanpfkaaaGreatDoorIdArg2
import Derived.Test.YtihjcloanpfkaaaGreatDoorChecked
set_option maxRecDepth 1000000
namespace Go.Ideal
open Go.Proofs Go.ChangeShapes
theorem allT (h31 : IOk Tryz.prog tabLaid 31 (bldWriteI 75 5)) (h33 : IOk Tryz.prog tabLaid 33 (bldLenI 75 5)) (h34 : IOk Tryz.prog tabLaid 34 (bldStringI 75 5)) : AllOk Tryz.prog tabLaid tFs :=
  AllOk.cons iok_txt' (AllOk.cons iok_rtx' (AllOk.cons iok_dig (AllOk.cons iok_ito (AllOk.cons h31 (AllOk.cons h33 (AllOk.cons h34 (AllOk.nil _ _)))))))
section
variable {H : Type} {enc : TypeId × Value → H} {W : World} {base : Nat} {args : Array Value} {ds : List (DataW H)} {ps : List MemPlace}
theorem okWide_plain {P : Program} {W : World} {r : Go.Reach} {b : Nat} {t : TypeId} {v : Value} {D : TypeDesc} (hu : P.underlying t = some D) (hD : (match D with | .struct _ => false | .array _ _ => false | _ => true) = true) (h : Value.okWide P W r b t v) : Cell.okWide P W r b t v := by
  unfold Value.okWide at h
  rw [hu] at h
  cases D <;> first | exact h | cases hD
theorem txts_calls (hw : KnownOk Tryz.prog tabLaid wrkK) (h31 : IOk Tryz.prog tabLaid 31 (bldWriteI 75 5)) (h33 : IOk Tryz.prog tabLaid 33 (bldLenI 75 5)) (h34 : IOk Tryz.prog tabLaid 34 (bldStringI 75 5))
    (hval : ∀ (j : Nat) t v, Tryz.f4.params[j]? = some t → args[j]? = some v → Value.okWide Tryz.prog W .any base t v) (hA : DataW.TrodAll enc Tryz.prog W 0 (fun _ => true) true Tryz.f4.params.toList args.toList ds ps)
    (hL0 : LaidW XPV (env0 W) W) : Calls Tryz.prog 4 args W fun e W' => e = .returned (.bool true) ∧ OldKept W W' := by
  rw [Tryz.params4] at hA hval
  obtain ⟨v1, d1, rfl, _, ht⟩ := trodAll_one hA
  have hok := okWide_plain Tryz.underlying34 rfl (hval 0 34 v1 rfl rfl)
  have hcs : v1.cells.toList = [v1] := by
    rcases fit_slice Tryz.underlying34 hok with rfl | ⟨_, _, _, _, rfl, _⟩ <;> rfl
  obtain ⟨fuel, ht⟩ := ht
  rw [hcs] at ht
  have hL1 : LaidW XPN (env0 W) W := by
    have := hL0
    unfold LaidW at this ⊢
    exact this
  obtain ⟨μ, s1, s2, hrow⟩ := row_start (X := XPV) hL0 (n := 20) (by kernel_rfl) Tryz.underlying34 (k := kES) (by kernel_rfl) rfl hok ht
  rcases hrow with rfl | ⟨l, T, hl, _, s3, s4, hv⟩
  · refine walk_ends (X := XPN) ((AllOk.cons (iok_known hw) (AllOk.cons h31 (AllOk.cons h33 (AllOk.cons h34 (AllOk.nil _ _))))).intr _ _ hL1) (planOk_of (by kernel_rfl) rfl) (n := 65) (by kernel_rfl) s1 s2 (args := [.slice none 0 0])
      (.cons (.nilslice _ _) .nil) (by simp) ptn_ends rfl
  · exact walk_endsN (X := XPV) ((allP hw (allT h31 h33 h34)).intr _ _ hL0) (planOk_of (by kernel_rfl) rfl) (n := 65) (N := 21) (by kernel_rfl) s3 s4 (args := [.slice (some ⟨20, 0, some 0⟩) l.length capU])
      (.cons hv .nil) (by simp) (pt_ends l) rfl
end
end Go.Ideal
