/-
  RecoveryNil returns true for every argument, and leaves what was there as it was: the row, and the card tied to the program's text. Its conditions: the listed variable reads as listed (the card ties it).
-/
import Derived.Test.YtjaogllgillaiaaGreatDoorCNil
import Derived.Test.YtjaogllgillaiaaGreatDoorNilFacts
import Derived.Test.YtjaogllgillaiaaGreatDoorIdRow
import Derived.Test.YtjaogllgillaiaaGreatDoorIdPure
import Derived.Test.YtjaogllgillaiaaGreatDoorRows
import Derived.Test.YtjaogllgillaiaaGreatDoorTie
import Derived.Test.YtjaogllgillaiaaGreatDoorCards
import Derived.Stop.Joined
import Derived.SevenTiedAt
namespace Go.Ideal
open Go.Proofs
theorem nil_ends (s z r w k v p : Int) : EndsIn (XN cfgErr) 3 (fun v' _ => v' = .bool true) (st 3 72 [cfgV s z r w k v p] (heap0 tabLaid 10)) := by
  refine VC_ok (ids := []) (Q := fun v' _ => v' = .bool true) 3000 _ ?_
  rw [vc_nil]
  repeat' first
    | exact rfl
    | refine ⟨rfl, ?_⟩
    | refine bif_both (fun _ => ?_) (fun _ => ?_)
end Go.Ideal
namespace Go.Proofs.YtjaogllgillaiaaGreatDoor
open Go.ChangeShapes Go.WideShapes Go.ChangeAt Go.WideMaps Go.WideElems Go.RowKit
open Go.Ideal
set_option maxRecDepth 100000
theorem walk {H : Type} {enc : TypeId × Value → H} (W : World) (base : Nat) (args : Array Value) (ds gs : List (DataW H)) (before : List MemPlace) (hval : ∀ (j : Nat) t v, Tryz.f3.params[j]? = some t → args[j]? = some v → Value.okWide Tryz.prog W .any base t v)
    (hW : DataW.Whole enc Tryz.prog Tryz.f3.params.toList Rows.recoveryNilSpec.vars false W args.toList ds gs before) (_hwt : (DataW.weightsEach Tryz.prog (Tryz.f3.params.toList ++ Rows.recoveryNilSpec.plain.varTypes Tryz.prog) (ds ++ gs)).all (· ≤ reachBytes) = true)
    (hL : laidMetH Tryz.prog [("drumlin/slots.loading", Rows.laid_drumlin_slots_loading)] W) :
    Calls Tryz.prog 3 args W fun e W' => e = .returned (.bool true) ∧ OldKept W W' := by
  obtain ⟨p, q, hA, _⟩ := hW
  have hA : DataW.TrodAll enc Tryz.prog W 0 (fun _ => true) true Tryz.f3.params.toList args.toList ds p := hA
  rw [Tryz.params3] at hA hval
  obtain ⟨v0, d0, rfl, _, _⟩ := trodAll_one hA
  obtain ⟨cs, rfl, hf⟩ := fits_agg (ts := [3, 3, 3, 3, 3, 3, 3]) (by kernel_rfl) (by kernel_rfl) (by kernel_rfl) (hval 0 23 v0 rfl rfl)
  cases hf with | cons c0 hf =>
  cases hf with | cons c1 hf =>
  cases hf with | cons c2 hf =>
  cases hf with | cons c3 hf =>
  cases hf with | cons c4 hf =>
  cases hf with | cons c5 hf =>
  cases hf with | cons c6 hf =>
  cases hf
  obtain ⟨s, rfl, _⟩ := fit_int Tryz.underlying3 c0
  obtain ⟨z, rfl, _⟩ := fit_int Tryz.underlying3 c1
  obtain ⟨r, rfl, _⟩ := fit_int Tryz.underlying3 c2
  obtain ⟨w, rfl, _⟩ := fit_int Tryz.underlying3 c3
  obtain ⟨k, rfl, _⟩ := fit_int Tryz.underlying3 c4
  obtain ⟨v, rfl, _⟩ := fit_int Tryz.underlying3 c5
  obtain ⟨po, rfl, _⟩ := fit_int Tryz.underlying3 c6
  have hL0 : LaidW (XN cfgErr) (env0 W) W := laidW_of (X := XN cfgErr) hL (by kernel_rfl) (by kernel_rfl) (by decide +kernel) (by kernel_rfl)
  obtain ⟨s1, s2⟩ := start0 (X := XN cfgErr) hL0 (none_le _) (fun _ hi => hi) (n := 10) (all_lt (by kernel_rfl))
  have hm := nil_ends s z r w k v po
  have hks : AllOk Tryz.prog tabLaid [(13, knownF wrkK), (52, fConf cfgErr)] := AllOk.cons (iok_known wrkKnown) (AllOk.cons iok_configCheck (AllOk.nil _ _))
  refine walk_ends (X := XN cfgErr) (hks.intr _ _ hL0) (planOk_of (by kernel_rfl) rfl) (n := 72) (by kernel_rfl) s1 s2 (args := [cfgV s z r w k v po]) (.cons (VRel.agg_iff.2 ⟨_, rfl, ?_⟩) .nil) (by simp) hm rfl
  exact .cons (.int _ _) (.cons (.int _ _) (.cons (.int _ _) (.cons (.int _ _) (.cons (.int _ _) (.cons (.int _ _) (.cons (.int _ _) .nil))))))

theorem own : ownKnob Tryz.prog.godebug = none := by kernel_rfl
abbrev laidL : List (String × DataW Unit) := [("drumlin/slots.loading", Rows.laid_drumlin_slots_loading)]
theorem laid_plain : (laidL.all fun x => x.2.handleName?.isNone) = true := by kernel_rfl
theorem lifted (os : Os) (started : os.Started) (H : Type) (enc : TypeId × Value → H) :
    ReturnsInHanded {} Tryz.checked os 3 .any (fun w args => (Rows.recoveryNilSpec.pre enc Tryz.prog Tryz.f3 [] false w args ∧ laidMetH Tryz.prog laidL w) ∧ sizedMet enc Tryz.prog Tryz.f3 (OpenSpec.ofChange Rows.recoveryNilSpec) false w args)
      (Rows.recoveryNilSpec.post enc Tryz.prog Tryz.f3 false true false false) := by
  refine returnsInHanded_of_change_and (C := Tryz.checked) (X := fun w _ => laidMetH Tryz.prog laidL w) (fun _ _ _ hh h => h.of_heap hh) own started (by kernel_rfl) Tryz.func3
    (ChangeSpec.witness_shaped (enc := enc) (C := Tryz.checked) (os := os) (X := fun w _ => laidMetH Tryz.prog laidL w) false (World.laidAll Tryz.prog os laidL) #[.agg #[.int .i64 0, .int .i64 0, .int .i64 0, .int .i64 0, .int .i64 0, .int .i64 0, .int .i64 0]] 8 (World.laidAll_os _ _ _) (World.shaped_of_ZipB (by kernel_rfl) (by kernel_rfl)) (by kernel_rfl) (by kernel_rfl) (by kernel_rfl)
      (by rw [MakeChecks.laidMetH_plain _ _ _ laid_plain]; exact laidMet_laidAll _ (by kernel_rfl) (by kernel_rfl))) ?_
  intro W base args ds gs before hval hW _ hwt hL _
  refine (walk W base args ds gs before hval hW hwt hL).mono fun e W' ⟨he, hk⟩ => ?_
  subst he
  refine ⟨_, rfl, law_post hW rfl (fun hg => ?_) (tb := 4) (by kernel_rfl) Tryz.underlying4 f_1 (fun t ht => ?_) hk⟩
  · subst hg
    obtain ⟨p, q, hA, _⟩ := hW
    have hA : DataW.TrodAll enc Tryz.prog W 0 (fun _ => true) true Tryz.f3.params.toList args.toList ds p := hA
    rw [Tryz.params3] at hA
    obtain ⟨_v0, d0, _, rfl, _⟩ := trodAll_one hA
    exact ⟨rfl, rfl, rfl⟩
  · rw [Tryz.params3] at ht
    have hm : t ∈ [23] := by simpa using ht
    have hx := List.all_eq_true.1 f_read t hm
    have hy : Tryz.pinned.checked.prog.readableRec t = true ∧ t < Tryz.pinned.checked.prog.types.size := by simpa using hx
    exact hy
theorem recoveryNil_holds : Rows.RecoveryNilSaid :=
  OpenClaim.holds_of_wide 3 Tryz.f3 rfl rfl rfl rfl rfl rfl rfl ⟨rfl, rfl, rfl, rfl, rfl⟩ rfl rfl rfl rfl rfl f_fn Tryz.func3 f_facts
    f_inst (by unfold Func.isWrapper; first | (rw [if_pos (by decide +kernel)]; kernel_rfl) | (rw [if_neg (by decide +kernel)]; exact ⟨rfl, rfl⟩))
    (fun os started H enc _ => lifted os started H enc)
theorem recoveryNil_card_holds : Rows.RecoveryNilCardSaid :=
  Claim7.holds_tied_plain_at .later [] [.data] true (true, "460178fdd772d442b3710f964c976be36c355c8a7811891c6e5823904f03005f") false
    recoveryNil_holds (fun _ h => by cases h) f_wf (fun _ h => by cases h) recoveryNil_row_tie rfl ⟨rfl, rfl⟩ f_main rfl
    (fun f fn hf hfn => by
      obtain rfl : f = 3 := Option.some.inj (f_fn.symm.trans hf) |>.symm
      obtain rfl : fn = Tryz.f3 := (Option.some.inj (Tryz.func3.symm.trans hfn)).symm
      exact ⟨f_looks, fun j t ht => by
        rw [Tryz.params3] at ht
        have hm : t ∈ [23] := by simpa using Array.mem_of_getElem? ht
        exact (by simpa using List.all_eq_true.1 f_stand t hm)⟩)
    f_goes
end Go.Proofs.YtjaogllgillaiaaGreatDoor
