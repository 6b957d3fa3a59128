/-
  Part of the proof: the machine that runs a program by fixed orders, and that each of its runs is a run of the model; or a run of it in parts. No conditions.
-/
import Derived.Test.YtjaogllgillaiaaGreatDoorCConf
import Derived.Test.YtjaogllgillaiaaGreatDoorIdPure
namespace Go.Ideal
open Go.Proofs
/-- Whether a configuration is allowed. -/
def cfgOk (s z r w k v p : Int) : Prop := 2 ≤ r ∧ r ≤ 8 ∧ r + 2 ≤ s ∧ s ≤ 32 ∧ 1 ≤ k ∧ k ≤ 32 ∧ 0 ≤ v ∧ v ≤ 512 ∧ 32 + k + v ≤ z ∧ z ≤ 8192 ∧ 2 * (32 + k + v) ≤ w ∧ w ≤ 65536 ∧ 1 ≤ p ∧ p ≤ 2
instance (s z r w k v p : Int) : Decidable (cfgOk s z r w k v p) := by unfold cfgOk; exact inferInstance
def cfgErr (s z r w k v p : Int) : Int := if cfgOk s z r w k v p then 0 else 2
theorem cfg_no {s z r w k v p : Int} (h : ¬ cfgOk s z r w k v p) : (Value.int .i64 2) = .int .i64 (cfgErr s z r w k v p) := by unfold cfgErr; rw [if_neg h]
theorem configCheck_ends (s z r w k v p : Int) : EndsIn X0 52 (fun v' _ => v' = .int .i64 (cfgErr s z r w k v p)) (st 52 55 [cfgV s z r w k v p] (heap0 tabLaid 10)) := by
  refine (VC_ok (ids := []) (Q := fun v' _ => v' = .int .i64 (cfgErr s z r w k v p)) 1000 _ ?_)
  rw [vc_configCheck]
  repeat (refine ⟨rfl, ?_⟩)
  refine bif_decide (fun h => cfg_no (by unfold cfgOk; omega)) fun h1 => ?_
  refine bif_decide (fun h => cfg_no (by unfold cfgOk; omega)) fun h2 => ?_
  rw [wrap64 (x := r + 2) (by omega) (by omega)]
  refine bif_decide (fun h => cfg_no (by unfold cfgOk; omega)) fun h3 => ?_
  refine bif_decide (fun h => cfg_no (by unfold cfgOk; omega)) fun h4 => ?_
  refine bif_decide (fun h => cfg_no (by unfold cfgOk; omega)) fun h5 => ?_
  refine bif_decide (fun h => cfg_no (by unfold cfgOk; omega)) fun h6 => ?_
  refine bif_decide (fun h => cfg_no (by unfold cfgOk; omega)) fun h7 => ?_
  refine bif_decide (fun h => cfg_no (by unfold cfgOk; omega)) fun h8 => ?_
  rw [wrap64 (x := 16 + k) (by omega) (by omega), wrap64 (x := 16 + k + v) (by omega) (by omega), wrap64 (x := 16 + (16 + k + v)) (by omega) (by omega)]
  refine bif_decide (fun h => cfg_no (by unfold cfgOk; omega)) fun h9 => ?_
  refine bif_decide (fun h => cfg_no (by unfold cfgOk; omega)) fun h10 => ?_
  rw [wrap64 (x := 16 + k + v + 16) (by omega) (by omega), wrap64 (x := 2 * (16 + k + v + 16)) (by omega) (by omega)]
  refine bif_decide (fun h => cfg_no (by unfold cfgOk; omega)) fun h11 => ?_
  refine bif_decide (fun h => cfg_no (by unfold cfgOk; omega)) fun h12 => ?_
  refine bif_decide (fun h => cfg_no (by unfold cfgOk; omega)) fun h13 => ?_
  refine bif_decide (fun h => cfg_no (by unfold cfgOk; omega)) fun h14 => ?_
  show Value.int .i64 0 = _
  unfold cfgErr
  rw [if_pos (by unfold cfgOk; omega)]
/-- What config.Check does. -/
noncomputable def fConf (g : Int → Int → Int → Int → Int → Int → Int → Int) : IFun := fun args H => match (match args with
    | [.agg ⟨[.int .i64 s, .int .i64 z, .int .i64 r, .int .i64 w, .int .i64 k, .int .i64 v, .int .i64 p]⟩] => some (.int .i64 (g s z r w k v p))
    | _ => none) with
  | some v => some (v, H)
  | none => none
theorem iok_configCheck : IOk Tryz.prog tabLaid 52 (fConf cfgErr) :=
  iok_pure (fs := []) (AllOk.nil _ _) (by kernel_rfl) (n := 55) (N := 10) (by kernel_rfl) rfl (fun args v h => by
    split at h
    · rename_i s z r w k v p
      cases h
      exact ⟨rfl, by simp, rfl, configCheck_ends s z r w k v p⟩
    · cases h)
end Go.Ideal
