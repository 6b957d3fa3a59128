/-
  MachineNil returns true for every argument, and leaves what was there as it was: the row, and the card tied to the program's text. Its conditions: the listed variables read as listed (the card ties them).
-/
import Derived.Test.YtfeammikiohoeaaGreatDoorCNil
import Derived.Test.YtfeammikiohoeaaGreatDoorNilFacts
import Derived.Test.YtfeammikiohoeaaGreatDoorIdRow2
import Derived.Test.YtfeammikiohoeaaGreatDoorIdPure
import Derived.Test.YtfeammikiohoeaaGreatDoorRows
import Derived.Test.YtfeammikiohoeaaGreatDoorTie
import Derived.Test.YtfeammikiohoeaaGreatDoorCards
import Derived.Stop.Joined
import Derived.SevenTiedAt
namespace Go.Ideal
open Go.Proofs
theorem nil_ends (k a b : Int) (key val : ByteArray) : EndsIn XN 4 (fun v' _ => v' = .bool true) (st 4 53 [opV k a b key val] (heap0 tabLaid 20)) := by
  refine VC_ok (ids := []) (Q := fun v' _ => v' = .bool true) 3000 _ ?_
  rw [vc_nil]
  repeat' first
    | exact rfl
    | refine ⟨rfl, ?_⟩
    | refine bif_both (fun _ => ?_) (fun _ => ?_)
end Go.Ideal
namespace Go.Proofs.YtfeammikiohoeaaGreatDoor
open Go.ChangeShapes Go.WideShapes Go.ChangeAt Go.WideMaps Go.WideElems Go.RowKit
open Go.Ideal
set_option maxRecDepth 100000
theorem walk {H : Type} {enc : TypeId × Value → H} (W : World) (base : Nat) (args : Array Value) (ds gs : List (DataW H)) (before : List MemPlace) (hval : ∀ (j : Nat) t v, Tryz.f4.params[j]? = some t → args[j]? = some v → Value.okWide Tryz.prog W .any base t v)
    (hW : DataW.Whole enc Tryz.prog Tryz.f4.params.toList Rows.machineNilSpec.vars false W args.toList ds gs before) (_hwt : (DataW.weightsEach Tryz.prog (Tryz.f4.params.toList ++ Rows.machineNilSpec.plain.varTypes Tryz.prog) (ds ++ gs)).all (· ≤ reachBytes) = true)
    (hL : laidMetH Tryz.prog [("math/bits.deBruijn32tab", Rows.laid_math_bits_deBruijn32tab), ("math/bits.deBruijn64tab", Rows.laid_math_bits_deBruijn64tab), ("internal/strconv.uint64pow10", Rows.laid_internal_strconv_uint64pow10), ("unicode/utf8.acceptRanges", Rows.laid_unicode_utf8_acceptRanges), ("drumlin/slots.sealing", Rows.laid_drumlin_slots_sealing), ("drumlin/slots.choosing", Rows.laid_drumlin_slots_choosing), ("drumlin/slots.dropping", Rows.laid_drumlin_slots_dropping), ("drumlin/slots.loading", Rows.laid_drumlin_slots_loading), ("strconv.ErrRange", Rows.laid_strconv_ErrRange), ("strconv.ErrSyntax", Rows.laid_strconv_ErrSyntax), ("unicode/utf8.first", Rows.laid_unicode_utf8_first)] W) :
    Calls Tryz.prog 4 args W fun e W' => e = .returned (.bool true) ∧ OldKept W W' := by
  obtain ⟨p, q, hA, _⟩ := hW
  have hA : DataW.TrodAll enc Tryz.prog W 0 (fun _ => true) true Tryz.f4.params.toList args.toList ds p := hA
  rw [Tryz.params4] at hA
  rw [Tryz.params4] at hval
  obtain ⟨v0, d0, rfl, _, _⟩ := trodAll_one hA
  obtain ⟨cs, rfl, hf⟩ := fits_agg (ts := [3, 3, 3, 9, 9]) (by kernel_rfl) (by kernel_rfl) (by kernel_rfl) (hval 0 31 v0 rfl rfl)
  cases hf with | cons c0 hf =>
  cases hf with | cons c1 hf =>
  cases hf with | cons c2 hf =>
  cases hf with | cons c3 hf =>
  cases hf with | cons c4 hf =>
  cases hf
  obtain ⟨k, rfl, _⟩ := fit_int Tryz.underlying3 c0
  obtain ⟨a, rfl, _⟩ := fit_int Tryz.underlying3 c1
  obtain ⟨b, rfl, _⟩ := fit_int Tryz.underlying3 c2
  obtain ⟨key, rfl, _⟩ := fit_str Tryz.underlying9 c3
  obtain ⟨val, rfl, _⟩ := fit_str Tryz.underlying9 c4
  have hL0 : LaidW XN (env0 W) W := laidW_at (X := XN) hL (by kernel_rfl) [7, 6, 4, 5, 1] (by kernel_rfl) (by decide +kernel) (by kernel_rfl)
  obtain ⟨s1, s2⟩ := start0 (X := XN) hL0 (none_le _) (fun _ hi => hi) (n := 20) (all_lt (by kernel_rfl))
  have hm := nil_ends k a b key val
  have hks : AllOk Tryz.prog tabLaid [(11, knownF wrkK)] := AllOk.cons (iok_known wrkKnown) (AllOk.nil _ _)
  refine walk_ends (X := XN) (hks.intr _ _ hL0) (planOk_of (by kernel_rfl) rfl) (n := 53) (by kernel_rfl) s1 s2 (args := [opV k a b key val]) (.cons (VRel.agg_iff.2 ⟨_, rfl, ?_⟩) .nil) (by simp) hm rfl
  exact .cons (.int _ _) (.cons (.int _ _) (.cons (.int _ _) (.cons (.string _) (.cons (.string _) .nil))))

theorem own : ownKnob Tryz.prog.godebug = none := by kernel_rfl
abbrev laidL : List (String × DataW Unit) := [("math/bits.deBruijn32tab", Rows.laid_math_bits_deBruijn32tab), ("math/bits.deBruijn64tab", Rows.laid_math_bits_deBruijn64tab), ("internal/strconv.uint64pow10", Rows.laid_internal_strconv_uint64pow10), ("unicode/utf8.acceptRanges", Rows.laid_unicode_utf8_acceptRanges), ("drumlin/slots.sealing", Rows.laid_drumlin_slots_sealing), ("drumlin/slots.choosing", Rows.laid_drumlin_slots_choosing), ("drumlin/slots.dropping", Rows.laid_drumlin_slots_dropping), ("drumlin/slots.loading", Rows.laid_drumlin_slots_loading), ("strconv.ErrRange", Rows.laid_strconv_ErrRange), ("strconv.ErrSyntax", Rows.laid_strconv_ErrSyntax), ("unicode/utf8.first", Rows.laid_unicode_utf8_first)]
theorem laid_plain : (laidL.all fun x => x.2.handleName?.isNone) = true := by kernel_rfl
theorem lifted (os : Os) (started : os.Started) (H : Type) (enc : TypeId × Value → H) :
    ReturnsInHanded {} Tryz.checked os 4 .any (fun w args => (Rows.machineNilSpec.pre enc Tryz.prog Tryz.f4 [] false w args ∧ laidMetH Tryz.prog laidL w) ∧ sizedMet enc Tryz.prog Tryz.f4 (OpenSpec.ofChange Rows.machineNilSpec) false w args)
      (Rows.machineNilSpec.post enc Tryz.prog Tryz.f4 false true false false) := by
  refine returnsInHanded_of_change_and (C := Tryz.checked) (X := fun w _ => laidMetH Tryz.prog laidL w) (fun _ _ _ hh h => h.of_heap hh) own started (by kernel_rfl) Tryz.func4
    (ChangeSpec.witness_shaped (enc := enc) (C := Tryz.checked) (os := os) (X := fun w _ => laidMetH Tryz.prog laidL w) false (World.laidAll Tryz.prog os laidL) #[.agg #[.int .i64 0, .int .i64 0, .int .i64 0, .string ⟨#[]⟩, .string ⟨#[]⟩]] 8 (World.laidAll_os _ _ _) (World.shaped_of_ZipB (by kernel_rfl) (by kernel_rfl)) (by kernel_rfl) (by kernel_rfl) (by kernel_rfl)
      (by rw [MakeChecks.laidMetH_plain _ _ _ laid_plain]; exact laidMet_laidAll _ (by kernel_rfl) (by kernel_rfl))) ?_
  intro W base args ds gs before hval hW _ hwt hL _
  refine (walk W base args ds gs before hval hW hwt hL).mono fun e W' ⟨he, hk⟩ => ?_
  subst he
  refine ⟨_, rfl, law_post hW rfl (fun hg => ?_) (tb := 4) (by kernel_rfl) Tryz.underlying4 f_1 (fun t ht => ?_) hk⟩
  · subst hg
    obtain ⟨p, q, hA, _⟩ := hW
    have hA : DataW.TrodAll enc Tryz.prog W 0 (fun _ => true) true Tryz.f4.params.toList args.toList ds p := hA
    rw [Tryz.params4] at hA
    obtain ⟨_v0, d0, _, rfl, _⟩ := trodAll_one hA
    exact ⟨rfl, rfl, rfl⟩
  · rw [Tryz.params4] at ht
    have hm : t ∈ [31] := by simpa using ht
    have hx := List.all_eq_true.1 f_read t hm
    have hy : Tryz.pinned.checked.prog.readableRec t = true ∧ t < Tryz.pinned.checked.prog.types.size := by simpa using hx
    exact hy
theorem machineNil_holds : Rows.MachineNilSaid :=
  OpenClaim.holds_of_wide 4 Tryz.f4 rfl rfl rfl rfl rfl rfl rfl ⟨rfl, rfl, rfl, rfl, rfl⟩ rfl rfl rfl rfl rfl f_fn Tryz.func4 f_facts
    f_inst (by unfold Func.isWrapper; first | (rw [if_pos (by decide +kernel)]; kernel_rfl) | (rw [if_neg (by decide +kernel)]; exact ⟨rfl, rfl⟩))
    (fun os started H enc _ => lifted os started H enc)
theorem machineNil_card_holds : Rows.MachineNilCardSaid :=
  Claim7.holds_tied_plain_at .later [] [.data, .data, .data, .data, .data, .data, .data, .data, .sentinel, .sentinel, .pinned] true (true, "0fea3c40a9fdf886b2529d9fdfe6142b3bccee424f080018c33b9f6d68fc5ab6") true
    machineNil_holds (fun _ h => by cases h) f_wf (fun _ h => by cases h) machineNil_row_tie rfl ⟨rfl, rfl⟩ f_main rfl
    (fun f fn hf hfn => by
      obtain rfl : f = 4 := Option.some.inj (f_fn.symm.trans hf) |>.symm
      obtain rfl : fn = Tryz.f4 := (Option.some.inj (Tryz.func4.symm.trans hfn)).symm
      exact ⟨f_looks, fun j t ht => by
        rw [Tryz.params4] at ht
        have hm : t ∈ [31] := by simpa using Array.mem_of_getElem? ht
        exact (by simpa using List.all_eq_true.1 f_stand t hm)⟩)
    f_goes
end Go.Proofs.YtfeammikiohoeaaGreatDoor
