/-
  WriterNil returns true for every number, and leaves what was there as it was: the row, and the card tied to the program's text. Its conditions: the two listed variables read as listed (the card ties them).
-/
import Derived.Test.YtehdneclbfldaaaGreatDoorOutK
import Derived.Test.YtehdneclbfldaaaGreatDoorOutFacts
import Derived.Test.YtehdneclbfldaaaGreatDoorIdLaid
import Derived.Test.YtehdneclbfldaaaGreatDoorRows
import Derived.Test.YtehdneclbfldaaaGreatDoorTie
import Derived.Test.YtehdneclbfldaaaGreatDoorCards
import Derived.Stop.Joined
import Derived.SevenTiedAt
namespace Go.Proofs.YtehdneclbfldaaaGreatDoor
open Go.ChangeShapes Go.WideShapes Go.ChangeAt Go.WideMaps Go.WideElems Go.RowKit
open Go.Ideal
set_option maxRecDepth 100000

theorem own : ownKnob Tryz.prog.godebug = none := by kernel_rfl
abbrev laidL : List (String × DataW Unit) := [("math/bits.deBruijn64tab", Rows.laid_math_bits_deBruijn64tab), ("drumlin/slots.sealing", Rows.laid_drumlin_slots_sealing)]
theorem door_met (os : Os) (args : Array Value) : laidMetH Tryz.prog laidL ((World.doorLaid Tryz.prog 400 os).forCall (fun _ _ => 0) ⟨#[], args, []⟩).memory :=
  laidMetH_of_parts3 (fuel := 8) (laidMet_of_run' 8 (by kernel_rfl) (by kernel_rfl)) (by kernel_rfl) (by kernel_rfl)

theorem walk (a : Int) (wa : (Lit.int .u8 a).wf = true) (W : World) (hL : laidMetH Tryz.prog laidL W) : Calls Tryz.prog 3 #[.int .u8 a] W fun e W' => e = .returned (.bool true) ∧ OldKept W W' := by
  have hW : LaidW outX W.heap.size W := laidW_of (X := outX) hL (by kernel_rfl) (by kernel_rfl) (by decide +kernel) (by kernel_rfl)
  obtain ⟨w, rfl, hw⟩ := u8_range wa
  exact walk_of (X := outX) hW (intrOk_of outKsOk _ _ hW) (planOk_of (by kernel_rfl) rfl) (n := 126) (N := 12) (f := 3) (args := [.int .u8 (.ofNat w)]) (by kernel_rfl) (fun μ => .cons (.int _ _) .nil) (by simp) (by kernel_rfl) (outAll w hw) rfl

theorem lifted (os : Os) (started : os.Started) (H : Type) (enc : TypeId × Value → H) :
    ReturnsInHanded {} Tryz.checked os 3 .any (fun w args => (Rows.writerNilSpec.pre enc Tryz.prog Tryz.f3 [] false w args ∧ laidMetH Tryz.prog laidL w) ∧ sizedMet enc Tryz.prog Tryz.f3 (OpenSpec.ofChange Rows.writerNilSpec) false w args)
      (Rows.writerNilSpec.post enc Tryz.prog Tryz.f3 false true false false) := by
  refine returnsInHanded_of_change_and (C := Tryz.checked) (X := fun w _ => laidMetH Tryz.prog laidL w) (fun _ _ _ hh h => h.of_heap hh) own started (by kernel_rfl) Tryz.func3
    (ChangeSpec.witness_shaped (enc := enc) (C := Tryz.checked) (os := os) (X := fun w _ => laidMetH Tryz.prog laidL w) false (World.doorLaid Tryz.prog 400 os) #[.int .u8 0] 8 rfl (World.shaped_of_RefB (by kernel_rfl) (by kernel_rfl)) (by kernel_rfl) (by kernel_rfl) (by kernel_rfl) (door_met os _)) ?_
  intro W base args ds gs before hval0 hW _ _ hL _
  have hval : ∀ (j : Nat) t v, Tryz.f3.params[j]? = some t → args[j]? = some v → Value.okWide Tryz.prog W .any base t v := hval0
  have hW' := hW
  obtain ⟨p, q, hA0, hV, rfl, hfz, hnd⟩ := hW
  have hA : DataW.TrodAll enc Tryz.prog W 0 (fun _ => true) true Tryz.f3.params.toList args.toList ds p := hA0
  rw [Tryz.params3] at hA hval
  obtain ⟨v0, d0, rfl, rfl, h0⟩ := trodAll_one hA
  obtain ⟨rfl, rfl⟩ := trodVars_none hV
  obtain ⟨a, rfl, rfl, rfl, wa⟩ := open_int Tryz.underlying5 (hval 0 5 v0 rfl rfl) h0
  clear hA0 hval0
  simp only [List.append_nil] at hW'
  refine (walk a wa W hL).mono fun e W' ⟨he, hg⟩ => ?_
  subst he
  exact ⟨_, rfl, post_of_old (pa := []) (pv := []) hW' (fun _ _ _ => trodAll_mk1 (shut_bool Tryz.underlying4 _)) (fun sp _ => trodAll_mk1 (shut_int Tryz.underlying5 wa)) (fun _ _ => rfl) rfl hg (ok_one (by kernel_rfl) rfl (okWide_bool_mk Tryz.underlying4 _))⟩

theorem writerNil_holds : Rows.WriterNilSaid :=
  OpenClaim.holds_of_wide 3 Tryz.f3 rfl rfl rfl rfl rfl rfl rfl ⟨rfl, rfl, rfl, rfl, rfl⟩ rfl rfl rfl rfl rfl f_fn Tryz.func3 f_facts
    f_inst (by unfold Func.isWrapper; first | (rw [if_pos (by decide +kernel)]; kernel_rfl) | (rw [if_neg (by decide +kernel)]; exact ⟨rfl, rfl⟩))
    (fun os started H enc _ => lifted os started H enc)

theorem writerNil_card_holds : Rows.WriterNilCardSaid :=
  Claim7.holds_tied_plain_at .later [] [.data, .data] true (true, "908b62ba284b47d4852f96fcaa6552942c394b45d3c0074bda9ced16423116f0") false
    writerNil_holds (fun _ h => by cases h) f_wf (fun _ h => by cases h) writerNil_row_tie rfl ⟨rfl, rfl⟩ f_main rfl
    (fun f fn hf hfn => by
      obtain rfl : f = 3 := Option.some.inj (f_fn.symm.trans hf) |>.symm
      obtain rfl : fn = Tryz.f3 := (Option.some.inj (Tryz.func3.symm.trans hfn)).symm
      exact ⟨f_looks, fun j t ht => by
        rw [Tryz.params3] at ht
        have hm : t ∈ [5] := by simpa using Array.mem_of_getElem? ht
        exact (by simpa using List.all_eq_true.1 f_stand t hm)⟩)
    f_goes
end Go.Proofs.YtehdneclbfldaaaGreatDoor
