/-
  MatchNil returns true for every argument, and leaves what was there as it was: the row, and the card tied to the program's text. Its conditions: the listed variables read as listed (the card ties them).
-/
import Derived.Test.YtcmdfhijpnomlaaGreatDoorKnwK
import Derived.Test.YtcmdfhijpnomlaaGreatDoorOutK
import Derived.Test.YtcmdfhijpnomlaaGreatDoorNilFacts
import Derived.Test.YtcmdfhijpnomlaaGreatDoorIdPure
import Derived.Test.YtcmdfhijpnomlaaGreatDoorMyTie
import Derived.Test.YtcmdfhijpnomlaaGreatDoorRows
import Derived.Test.YtcmdfhijpnomlaaGreatDoorCards
import Derived.Stop.Joined
import Derived.SevenTiedAt
namespace Go.Ideal
theorem okWide_plain2 {P : Program} {W : World} {r : Go.Reach} {b : Nat} {t : TypeId} {v : Value} {D : TypeDesc} (hu : P.underlying t = some D) (hD : (match D with | .struct _ => false | .array _ _ => false | _ => true) = true) (h : Value.okWide P W r b t v) : Cell.okWide P W r b t v := by
  unfold Value.okWide at h
  rw [hu] at h
  cases D <;> first | exact h | cases hD
end Go.Ideal
namespace Go.Proofs.YtcmdfhijpnomlaaGreatDoor
open Go.ChangeShapes Go.WideShapes Go.ChangeAt Go.WideMaps Go.WideElems Go.RowKit
open Go.Ideal
set_option maxRecDepth 100000
theorem walk {H : Type} {enc : TypeId × Value → H} (W : World) (base : Nat) (args : Array Value) (ds gs : List (DataW H)) (before : List MemPlace) (hval : ∀ (j : Nat) t v, Tryz.f3.params[j]? = some t → args[j]? = some v → Value.okWide Tryz.prog W .any base t v)
    (hW : DataW.Whole enc Tryz.prog Tryz.f3.params.toList Rows.matchNilSpec.vars false W args.toList ds gs before) (_hwt : (DataW.weightsEach Tryz.prog (Tryz.f3.params.toList ++ Rows.matchNilSpec.plain.varTypes Tryz.prog) (ds ++ gs)).all (· ≤ reachBytes) = true)
    (hL : laidMetH Tryz.prog [("math/bits.deBruijn64tab", Rows.laid_math_bits_deBruijn64tab), ("drumlin/slots.sealing", Rows.laid_drumlin_slots_sealing), ("math/bits.deBruijn32tab", Rows.laid_math_bits_deBruijn32tab), ("drumlin/slots.choosing", Rows.laid_drumlin_slots_choosing), ("drumlin/slots.dropping", Rows.laid_drumlin_slots_dropping), ("internal/strconv.uint64pow10", Rows.laid_internal_strconv_uint64pow10), ("unicode/utf8.first", Rows.laid_unicode_utf8_first), ("unicode/utf8.acceptRanges", Rows.laid_unicode_utf8_acceptRanges), ("strconv.ErrSyntax", Rows.laid_strconv_ErrSyntax), ("strconv.ErrRange", Rows.laid_strconv_ErrRange), ("drumlin/slots.loading", Rows.laid_drumlin_slots_loading)] W) :
    Calls Tryz.prog 3 args W fun e W' => e = .returned (.bool true) ∧ OldKept W W' := by
  obtain ⟨p, q, hA, _⟩ := hW
  have hA : DataW.TrodAll enc Tryz.prog W 0 (fun _ => true) true Tryz.f3.params.toList args.toList ds p := hA
  rw [Tryz.params3] at hA
  rw [Tryz.params3] at hval
  obtain ⟨v0, d0, rfl, _, _⟩ := trodAll_one hA
  obtain ⟨b, rfl⟩ := fit_bool Tryz.underlying4 (okWide_plain2 Tryz.underlying4 rfl (hval 0 4 v0 rfl rfl))
  have hL0 : LaidW (baseX Tryz.prog tabLaid) (env0 W) W := laidW_at (X := baseX Tryz.prog tabLaid) hL (by kernel_rfl) [10, 4, 1, 3, 0, 2] (by kernel_rfl) (by decide +kernel) (by kernel_rfl)
  obtain ⟨s1, s2⟩ := start0 (X := baseX Tryz.prog tabLaid) hL0 (none_le _) (fun _ hi => hi) (n := 20) (all_lt (by kernel_rfl))
  cases b
  · have hk := knwKnown.2 (env0 W) W _ _ W #[.bool false] hL0 s1 (.cons (.bool _) .nil)
    exact Calls.mono hk fun e W' ⟨v', μ', he, h1, h2, _⟩ => ⟨by
      have h2 : VRel μ' (.bool true) v' := h2
      cases h2
      exact he, h1.oldKept⟩
  · have hk := outKnown.2 (env0 W) W _ _ W #[.bool true] hL0 s1 (.cons (.bool _) .nil)
    exact Calls.mono hk fun e W' ⟨v', μ', he, h1, h2, _⟩ => ⟨by
      have h2 : VRel μ' (.bool true) v' := h2
      cases h2
      exact he, h1.oldKept⟩

theorem own : ownKnob Tryz.prog.godebug = none := by kernel_rfl
abbrev laidL : List (String × DataW Unit) := [("math/bits.deBruijn64tab", Rows.laid_math_bits_deBruijn64tab), ("drumlin/slots.sealing", Rows.laid_drumlin_slots_sealing), ("math/bits.deBruijn32tab", Rows.laid_math_bits_deBruijn32tab), ("drumlin/slots.choosing", Rows.laid_drumlin_slots_choosing), ("drumlin/slots.dropping", Rows.laid_drumlin_slots_dropping), ("internal/strconv.uint64pow10", Rows.laid_internal_strconv_uint64pow10), ("unicode/utf8.first", Rows.laid_unicode_utf8_first), ("unicode/utf8.acceptRanges", Rows.laid_unicode_utf8_acceptRanges), ("strconv.ErrSyntax", Rows.laid_strconv_ErrSyntax), ("strconv.ErrRange", Rows.laid_strconv_ErrRange), ("drumlin/slots.loading", Rows.laid_drumlin_slots_loading)]
theorem laid_plain : (laidL.all fun x => x.2.handleName?.isNone) = true := by kernel_rfl
theorem lifted (os : Os) (started : os.Started) (H : Type) (enc : TypeId × Value → H) :
    ReturnsInHanded {} Tryz.checked os 3 .any (fun w args => (Rows.matchNilSpec.pre enc Tryz.prog Tryz.f3 [] false w args ∧ laidMetH Tryz.prog laidL w) ∧ sizedMet enc Tryz.prog Tryz.f3 (OpenSpec.ofChange Rows.matchNilSpec) false w args)
      (Rows.matchNilSpec.post enc Tryz.prog Tryz.f3 false true false false) := by
  refine returnsInHanded_of_change_and (C := Tryz.checked) (X := fun w _ => laidMetH Tryz.prog laidL w) (fun _ _ _ hh h => h.of_heap hh) own started (by kernel_rfl) Tryz.func3
    (ChangeSpec.witness_shaped (enc := enc) (C := Tryz.checked) (os := os) (X := fun w _ => laidMetH Tryz.prog laidL w) false (World.laidAll Tryz.prog os laidL) #[.bool false] 8 (World.laidAll_os _ _ _) (World.shaped_of_ZipB (by kernel_rfl) (by kernel_rfl)) (by kernel_rfl) (by kernel_rfl) (by kernel_rfl)
      (by rw [MakeChecks.laidMetH_plain _ _ _ laid_plain]; exact laidMet_laidAll _ (by kernel_rfl) (by kernel_rfl))) ?_
  intro W base args ds gs before hval hW _ hwt hL _
  refine (walk W base args ds gs before hval hW hwt hL).mono fun e W' ⟨he, hk⟩ => ?_
  subst he
  refine ⟨_, rfl, law_post hW rfl (fun hg => ?_) (tb := 4) (by kernel_rfl) Tryz.underlying4 f_1 (fun t ht => ?_) hk⟩
  · subst hg
    obtain ⟨p, q, hA, _⟩ := hW
    have hA : DataW.TrodAll enc Tryz.prog W 0 (fun _ => true) true Tryz.f3.params.toList args.toList ds p := hA
    rw [Tryz.params3] at hA
    obtain ⟨_v0, d0, _, rfl, _⟩ := trodAll_one hA
    exact ⟨rfl, rfl, rfl⟩
  · rw [Tryz.params3] at ht
    have hm : t ∈ [4] := by simpa using ht
    have hx := List.all_eq_true.1 f_read t hm
    have hy : Tryz.pinned.checked.prog.readableRec t = true ∧ t < Tryz.pinned.checked.prog.types.size := by simpa using hx
    exact hy
theorem matchNil_holds : Rows.MatchNilSaid :=
  OpenClaim.holds_of_wide 3 Tryz.f3 rfl rfl rfl rfl rfl rfl rfl ⟨rfl, rfl, rfl, rfl, rfl⟩ rfl rfl rfl rfl rfl f_fn Tryz.func3 f_facts
    f_inst (by unfold Func.isWrapper; first | (rw [if_pos (by decide +kernel)]; kernel_rfl) | (rw [if_neg (by decide +kernel)]; exact ⟨rfl, rfl⟩))
    (fun os started H enc _ => lifted os started H enc)
theorem matchNil_card_holds : Rows.MatchNilCardSaid :=
  Claim7.holds_tied_plain_at .later [] [.data, .data, .data, .data, .data, .data, .pinned, .data, .sentinel, .sentinel, .data] true (true, "e6d36e849920beae8d3a2e0f9b0b3e4554886c98a1d36cbcc75c66b021ad6cfe") true
    matchNil_holds (fun _ h => by cases h) f_wf (fun _ h => by cases h) matchNil_row_tie rfl ⟨rfl, rfl⟩ f_main rfl
    (fun f fn hf hfn => by
      obtain rfl : f = 3 := Option.some.inj (f_fn.symm.trans hf) |>.symm
      obtain rfl : fn = Tryz.f3 := (Option.some.inj (Tryz.func3.symm.trans hfn)).symm
      exact ⟨f_looks, fun j t ht => by
        rw [Tryz.params3] at ht
        have hm : t ∈ [4] := by simpa using Array.mem_of_getElem? ht
        exact (by simpa using List.all_eq_true.1 f_stand t hm)⟩)
    f_goes
end Go.Proofs.YtcmdfhijpnomlaaGreatDoor
