/-
  Part of the proof: the machine that runs a program by fixed orders, and that each of its runs is a run of the model; or a run of it in parts. No conditions.
-/
import Derived.Test.YtihjcloanpfkaaaGreatDoorC41j
import Derived.Test.YtihjcloanpfkaaaGreatDoorRepB41r
import Derived.Test.YtihjcloanpfkaaaGreatDoorWrkK
set_option maxRecDepth 1000000
namespace Go.Ideal
open Go.Proofs Go.ChangeShapes
theorem txts_all {H : Type} {enc : TypeId × Value → H} {W : World} {base : Nat} {args : Array Value} {ds : List (DataW H)} {ps : List MemPlace}
    (hval : ∀ (j : Nat) t v, Tryz.f4.params[j]? = some t → args[j]? = some v → Value.okWide Tryz.prog W .any base t v) (hA : DataW.TrodAll enc Tryz.prog W 0 (fun _ => true) true Tryz.f4.params.toList args.toList ds ps)
    (hL0 : LaidW XPV (env0 W) W) : Calls Tryz.prog 4 args W fun e W' => e = .returned (.bool true) ∧ OldKept W W' :=
  txts_calls wrkKnown (bldW_ok _) (bldL_ok _) (bldS_ok _) hval hA hL0
end Go.Ideal
