/-
  ModelNil returns true for every argument, and leaves what was there as it was: the row, and the card tied to the program's text. Its conditions: the listed variables read as listed (the card ties them).
-/
import Derived.Test.YtidglbgpoagjlaaGreatDoorCNil
import Derived.Test.YtidglbgpoagjlaaGreatDoorNilFacts
import Derived.Test.YtidglbgpoagjlaaGreatDoorIdRow
import Derived.Test.YtidglbgpoagjlaaGreatDoorIdPure
import Derived.Test.YtidglbgpoagjlaaGreatDoorRows
import Derived.Test.YtidglbgpoagjlaaGreatDoorTie
import Derived.Test.YtidglbgpoagjlaaGreatDoorCards
import Derived.Stop.Joined
import Derived.SevenTiedAt
namespace Go.Ideal
open Go.Proofs
theorem nil_ends (op : Bool) (k a b : Int) (key val : ByteArray) (e : Int) (rv : ByteArray) (ks vs : Option Addr) (nk ck nv cv : Nat) : EndsIn XN 6 (fun v' _ => v' = .bool true) (st 6 69 [seenV op k a b key val e rv ks vs nk ck nv cv] (heap0 [] 19)) := by
  refine VC_ok (ids := []) (Q := fun v' _ => v' = .bool true) 3000 _ ?_
  rw [vc_nil]
  refine bif_both (fun _ => rfl) fun _ => bif_both (fun _ => rfl) fun _ => bif_both (fun _ => rfl) fun _ => bif_both (fun _ => rfl) fun _ => bif_both (fun _ => rfl) fun _ => ⟨rfl, rfl, rfl⟩
theorem capU_val : capU = 18446744073709551616 := by unfold capU; rfl
/-- A slice that is not looked into. -/
theorem slice_named {P : Program} {W W0 : World} {r : Go.Reach} {b0 : Nat} {t e : TypeId} {v : Value} (ht : P.underlying t = some (.slice e)) (h : Cell.okWide P W r b0 t v) {base : Env} {μ : Inj} {H : IHeap} (hH : HRel base W0 μ H W) :
    ∃ (a : Option Addr) (len cap : Nat) (μ' : Inj), HRel base W0 μ' ⟨H.m, H.next + 1⟩ W ∧ μ.le μ' ∧ VRel μ' (.slice a len cap) v := by
  rcases fit_slice ht h with rfl | ⟨b, o, len, cap, rfl, h1, h2, h3⟩
  · by_cases hz : 0 < W.heap.size
    · exact ⟨none, 0, 0, _, hH.name ⟨0, 0, 0, 0⟩ hz, Inj.le_ext _ (hH.fresh _ (Nat.le_refl _)).2, .nilslice _ _⟩
    · refine ⟨none, 0, 0, μ, ?_, Inj.le_refl _, .nilslice _ _⟩
      have key : ∀ b, μ b = none := fun b => by
        cases hb : μ b with
        | none => rfl
        | some T => have := hH.bound b T hb; omega
      have hg : ∀ b o, H.get b = some o → b < H.next := fun b o hb => hH.lt hb
      refine ⟨fun b o hb T hT => (by rw [key] at hT; cases hT), fun b o hb hr T hT => (by rw [key] at hT; cases hT), fun b1 b2 o1 o2 h1 h2 T1 T2 m1 => (by rw [key] at m1; cases m1), fun b hb => ?_, hH.bound, hH.size, hH.below, hH.out, hH.os, ?_, hH.le, hH.grow⟩
      · have hb : H.next + 1 ≤ b := hb
        exact hH.fresh b (by omega)
      · exact ⟨fun _ _ => False, fun b a ro T _ hT => (by rw [key] at hT; cases hT), fun b a ro T _ hT => (by rw [key] at hT; cases hT)⟩
  · refine ⟨some ⟨H.next, 0, none⟩, len, cap, _, hH.name ⟨b, o, 0, 0⟩ h3, Inj.le_ext _ (hH.fresh _ (Nat.le_refl _)).2, ?_⟩
    have hm : IntKind.i64.max = 9223372036854775807 := rfl
    rw [hm] at h2
    exact .slice H.next 0 len cap cap o ⟨b, o, 0, 0⟩ (Inj.ext_same _ _ _) (.inl ⟨by rw [capU_val]; omega, rfl⟩) (.inl rfl)
end Go.Ideal
namespace Go.Proofs.YtidglbgpoagjlaaGreatDoor
open Go.ChangeShapes Go.WideShapes Go.ChangeAt Go.WideMaps Go.WideElems Go.RowKit
open Go.Ideal
set_option maxRecDepth 100000
theorem walk {H : Type} {enc : TypeId × Value → H} (W : World) (base : Nat) (args : Array Value) (ds gs : List (DataW H)) (before : List MemPlace) (hval : ∀ (j : Nat) t v, Tryz.f6.params[j]? = some t → args[j]? = some v → Value.okWide Tryz.prog W .any base t v)
    (hW : DataW.Whole enc Tryz.prog Tryz.f6.params.toList Rows.modelNilSpec.vars false W args.toList ds gs before) (_hwt : (DataW.weightsEach Tryz.prog (Tryz.f6.params.toList ++ Rows.modelNilSpec.plain.varTypes Tryz.prog) (ds ++ gs)).all (· ≤ reachBytes) = true)
    (_hL : laidMetH Tryz.prog [("math/bits.deBruijn32tab", Rows.laid_math_bits_deBruijn32tab), ("math/bits.deBruijn64tab", Rows.laid_math_bits_deBruijn64tab), ("internal/strconv.uint64pow10", Rows.laid_internal_strconv_uint64pow10), ("unicode/utf8.acceptRanges", Rows.laid_unicode_utf8_acceptRanges), ("strconv.ErrRange", Rows.laid_strconv_ErrRange), ("strconv.ErrSyntax", Rows.laid_strconv_ErrSyntax), ("unicode/utf8.first", Rows.laid_unicode_utf8_first)] W) :
    Calls Tryz.prog 6 args W fun e W' => e = .returned (.bool true) ∧ OldKept W W' := by
  obtain ⟨p, q, hA, _⟩ := hW
  have hA : DataW.TrodAll enc Tryz.prog W 0 (fun _ => true) true Tryz.f6.params.toList args.toList ds p := hA
  rw [Tryz.params6] at hA hval
  obtain ⟨v0, d0, rfl, _, _⟩ := trodAll_one hA
  obtain ⟨cs, rfl, hf⟩ := fits_agg (ts := [4, 3, 3, 3, 9, 9, 47, 9, 42, 42]) (by kernel_rfl) (by kernel_rfl) (by kernel_rfl) (hval 0 63 v0 rfl rfl)
  cases hf with | cons c0 hf =>
  cases hf with | cons c1 hf =>
  cases hf with | cons c2 hf =>
  cases hf with | cons c3 hf =>
  cases hf with | cons c4 hf =>
  cases hf with | cons c5 hf =>
  cases hf with | cons c6 hf =>
  cases hf with | cons c7 hf =>
  cases hf with | cons c8 hf =>
  cases hf with | cons c9 hf =>
  cases hf
  obtain ⟨op, rfl⟩ := fit_bool Tryz.underlying4 c0
  obtain ⟨k, rfl, _⟩ := fit_int Tryz.underlying3 c1
  obtain ⟨a, rfl, _⟩ := fit_int Tryz.underlying3 c2
  obtain ⟨b, rfl, _⟩ := fit_int Tryz.underlying3 c3
  obtain ⟨key, rfl, _⟩ := fit_str Tryz.underlying9 c4
  obtain ⟨val, rfl, _⟩ := fit_str Tryz.underlying9 c5
  obtain ⟨er, rfl, _⟩ := fit_int Tryz.underlying47 c6
  obtain ⟨rv, rfl, _⟩ := fit_str Tryz.underlying9 c7
  have hL0 : LaidW XN (env0 W) W := laidW_nil rfl _ _
  obtain ⟨s1, s2⟩ := start0 (X := XN) hL0 (none_le _) (fun _ hi => hi) (n := 17) (fun p hp => by cases hp)
  obtain ⟨ks, nk, ck, μ1, g1, le1, r1⟩ := slice_named Tryz.underlying42 c8 s1
  obtain ⟨vs, nv, cv, μ2, g2, le2, r2⟩ := slice_named Tryz.underlying42 c9 g1
  have hm := nil_ends op k a b key val er rv ks vs nk ck nv cv
  have hks : AllOk Tryz.prog [] [(9, knownF wrkK)] := (AllOk.nil _ _).cons (iok_known wrkKnown)
  refine walk_ends (X := XN) (hks.intr _ _ hL0) (planOk_of (by kernel_rfl) rfl) (n := 69) (by kernel_rfl) g2 (fun g hg => by cases hg) (args := [seenV op k a b key val er rv ks vs nk ck nv cv]) (.cons (VRel.agg_iff.2 ⟨_, rfl, ?_⟩) .nil) (by simp) hm rfl
  exact .cons (.bool _) (.cons (.int _ _) (.cons (.int _ _) (.cons (.int _ _) (.cons (.string _) (.cons (.string _) (.cons (.int _ _) (.cons (.string _) (.cons (r1.mono le2) (.cons r2 .nil)))))))))

theorem own : ownKnob Tryz.prog.godebug = none := by kernel_rfl
abbrev laidL : List (String × DataW Unit) := [("math/bits.deBruijn32tab", Rows.laid_math_bits_deBruijn32tab), ("math/bits.deBruijn64tab", Rows.laid_math_bits_deBruijn64tab), ("internal/strconv.uint64pow10", Rows.laid_internal_strconv_uint64pow10), ("unicode/utf8.acceptRanges", Rows.laid_unicode_utf8_acceptRanges), ("strconv.ErrRange", Rows.laid_strconv_ErrRange), ("strconv.ErrSyntax", Rows.laid_strconv_ErrSyntax), ("unicode/utf8.first", Rows.laid_unicode_utf8_first)]
theorem laid_plain : (laidL.all fun x => x.2.handleName?.isNone) = true := by kernel_rfl
theorem lifted (os : Os) (started : os.Started) (H : Type) (enc : TypeId × Value → H) :
    ReturnsInHanded {} Tryz.checked os 6 .any (fun w args => (Rows.modelNilSpec.pre enc Tryz.prog Tryz.f6 [] false w args ∧ laidMetH Tryz.prog laidL w) ∧ sizedMet enc Tryz.prog Tryz.f6 (OpenSpec.ofChange Rows.modelNilSpec) false w args)
      (Rows.modelNilSpec.post enc Tryz.prog Tryz.f6 false true false false) := by
  refine returnsInHanded_of_change_and (C := Tryz.checked) (X := fun w _ => laidMetH Tryz.prog laidL w) (fun _ _ _ hh h => h.of_heap hh) own started (by kernel_rfl) Tryz.func6
    (ChangeSpec.witness_shaped (enc := enc) (C := Tryz.checked) (os := os) (X := fun w _ => laidMetH Tryz.prog laidL w) false (World.laidAll Tryz.prog os laidL) #[.agg #[.bool false, .int .i64 0, .int .i64 0, .int .i64 0, .string ⟨#[]⟩, .string ⟨#[]⟩, .int .i64 0, .string ⟨#[]⟩, .slice none 0 0, .slice none 0 0]] 8 (World.laidAll_os _ _ _) (World.shaped_of_ZipB (by kernel_rfl) (by kernel_rfl)) (by kernel_rfl) (by kernel_rfl) (by kernel_rfl)
      (by rw [MakeChecks.laidMetH_plain _ _ _ laid_plain]; exact laidMet_laidAll _ (by kernel_rfl) (by kernel_rfl))) ?_
  intro W base args ds gs before hval hW _ hwt hL _
  refine (walk W base args ds gs before hval hW hwt hL).mono fun e W' ⟨he, hk⟩ => ?_
  subst he
  refine ⟨_, rfl, law_post hW rfl (fun hg => ?_) (tb := 4) (by kernel_rfl) Tryz.underlying4 f_1 (fun t ht => ?_) hk⟩
  · subst hg
    obtain ⟨p, q, hA, _⟩ := hW
    have hA : DataW.TrodAll enc Tryz.prog W 0 (fun _ => true) true Tryz.f6.params.toList args.toList ds p := hA
    rw [Tryz.params6] at hA
    obtain ⟨_v0, d0, _, rfl, _⟩ := trodAll_one hA
    exact ⟨rfl, rfl, rfl⟩
  · rw [Tryz.params6] at ht
    have hm : t ∈ [63] := by simpa using ht
    have hx := List.all_eq_true.1 f_read t hm
    have hy : Tryz.pinned.checked.prog.readableRec t = true ∧ t < Tryz.pinned.checked.prog.types.size := by simpa using hx
    exact hy
theorem modelNil_holds : Rows.ModelNilSaid :=
  OpenClaim.holds_of_wide 6 Tryz.f6 rfl rfl rfl rfl rfl rfl rfl ⟨rfl, rfl, rfl, rfl, rfl⟩ rfl rfl rfl rfl rfl f_fn Tryz.func6 f_facts
    f_inst (by unfold Func.isWrapper; first | (rw [if_pos (by decide +kernel)]; kernel_rfl) | (rw [if_neg (by decide +kernel)]; exact ⟨rfl, rfl⟩))
    (fun os started H enc _ => lifted os started H enc)
theorem modelNil_card_holds : Rows.ModelNilCardSaid :=
  Claim7.holds_tied_plain_at .later [] [.data, .data, .data, .data, .sentinel, .sentinel, .pinned] true (true, "45471e922a93c44a4a43102f520952dad87dec4750e05c13c224a6caf238fd53") true
    modelNil_holds (fun _ h => by cases h) f_wf (fun _ h => by cases h) modelNil_row_tie rfl ⟨rfl, rfl⟩ f_main rfl
    (fun f fn hf hfn => by
      obtain rfl : f = 6 := Option.some.inj (f_fn.symm.trans hf) |>.symm
      obtain rfl : fn = Tryz.f6 := (Option.some.inj (Tryz.func6.symm.trans hfn)).symm
      exact ⟨f_looks, fun j t ht => by
        rw [Tryz.params6] at ht
        have hm : t ∈ [63] := by simpa using Array.mem_of_getElem? ht
        exact (by simpa using List.all_eq_true.1 f_stand t hm)⟩)
    f_goes
end Go.Proofs.YtidglbgpoagjlaaGreatDoor
