/-
  Configurations that are not valid, or have another number of slots, are refused, before a device that is down is reported; a record that is there twice in a slot, or with another size in another slot, is refused. No conditions.
-/
import Derived.Test.YtkccgiifmlhhjaaGreatDoorRfw
import Derived.Test.YtkccgiifmlhhjaaGreatDoorRefFacts
import Derived.Test.YtkccgiifmlhhjaaGreatDoorInc
import Derived.Test.YtkccgiifmlhhjaaGreatDoorLh
import Derived.Test.YtkccgiifmlhhjaaGreatDoorRows
import Derived.Test.YtkccgiifmlhhjaaGreatDoorCards
import Derived.Stop.Joined
import Derived.Test.YtkccgiifmlhhjaaGreatDoorTie
import Derived.SevenTiedAt
namespace Go.Proofs.YtkccgiifmlhhjaaGreatDoor
open Go.ChangeShapes Go.WideShapes Go.ChangeAt Go.WideMaps Go.WideElems Go.RowKit
open Go.AD
set_option maxRecDepth 100000
theorem walk {H:Type} {enc:TypeId × Value->H} (W:World) (base:Nat) (args:Array Value) (ds gs:List (DataW H)) (before:List MemPlace) (hval:∀(j:Nat) t v,Tryz.f6.params[j]? = some t->args[j]? = some v->Value.okWide Tryz.prog W .any base t v)
 (hW:DataW.Whole enc Tryz.prog Tryz.f6.params.toList Rows.recoveryRefusesSpec.vars false W args.toList ds gs before) (_hwt:(DataW.weightsEach Tryz.prog (Tryz.f6.params.toList++Rows.recoveryRefusesSpec.plain.varTypes Tryz.prog) (ds++gs)).all (·<=reachBytes)=true)
 (hL:laidMetH Tryz.prog [("drumlin/slots.loading",Rows.laid_drumlin_slots_loading)] W):
 Calls Tryz.prog 6 args W fun e W'=>e= .returned (.bool true)/\Fk W W':=by
 obtain⟨p,q,hA,_⟩:=hW;have hA:DataW.TrodAll enc Tryz.prog W 0 (fun _=>true) true Tryz.f6.params.toList args.toList ds p:=hA;exact ACG hval hA (xK (X:=XRf) hL (by kernel_rfl) [0] (by kernel_rfl) (by decide +kernel))
theorem own:ownKnob Tryz.prog.godebug=none:=by kernel_rfl
abbrev laidL:List (String × DataW Unit):=[("drumlin/slots.loading",Rows.laid_drumlin_slots_loading)]
theorem laid_plain:(laidL.all fun x=>x.2.handleName?.isNone)=true:=by kernel_rfl
theorem lifted (os:Os) (started:os.Started) (H:Type) (enc:TypeId × Value->H):
 ReturnsInHanded {} Tryz.checked os 6 .any (fun w args=>(Rows.recoveryRefusesSpec.pre enc Tryz.prog Tryz.f6 [] false w args/\laidMetH Tryz.prog laidL w)/\sizedMet enc Tryz.prog Tryz.f6 (OpenSpec.ofChange Rows.recoveryRefusesSpec) false w args)
  (Rows.recoveryRefusesSpec.post enc Tryz.prog Tryz.f6 false true false false):=by
 refine returnsInHanded_of_change_and (C:=Tryz.checked) (X:=fun w _=>laidMetH Tryz.prog laidL w) (fun _ _ _ hh h=>h.of_heap hh) own started (by kernel_rfl) Tryz.func6
  (ChangeSpec.witness_shaped (enc:=enc) (C:=Tryz.checked) (os:=os) (X:=fun w _=>laidMetH Tryz.prog laidL w) false (World.laidAll Tryz.prog os laidL) #[.slice none 0 0,.int .u8 0,.int .u16 0] 8 (World.laidAll_os _ _ _) (World.shaped_of_ZipB (by kernel_rfl) (by kernel_rfl)) (by kernel_rfl) (by kernel_rfl) (by kernel_rfl)
   (by rw[MakeChecks.laidMetH_plain _ _ _ laid_plain];exact laidMet_laidAll _ (by kernel_rfl) (by kernel_rfl))) ?_
 intro W base args ds gs before hval hW _ hwt hL _;refine(walk W base args ds gs before hval hW hwt hL).mono fun e W' ⟨he,hk⟩=>?_
 subst he;refine⟨_,rfl,wv hW rfl (fun hg=>?_) (tb:=4) (by kernel_rfl) Tryz.underlying4 f_1 (fun t ht=>?_) hk⟩
 ·subst hg;obtain⟨p,q,hA,_⟩:=hW;have hA:DataW.TrodAll enc Tryz.prog W 0 (fun _=>true) true Tryz.f6.params.toList args.toList ds p:=hA;rw[Tryz.params6]at hA;obtain⟨_v0,_v1,_v2,d0,d1,d2,p0,p1,p2,_,rfl,_⟩:=trodAll_three hA;exact⟨rfl,rfl,rfl⟩
 ·rw[Tryz.params6]at ht;have hm:t∈[22,5,23]:=by simpa using ht
  have hx:=List.all_eq_true.1 f_read t hm;have hy:Tryz.pinned.checked.prog.readableRec t=true/\t < Tryz.pinned.checked.prog.types.size:=by simpa using hx
  exact hy
theorem recoveryRefuses_holds:Rows.RecoveryRefusesSaid:=
 OpenClaim.holds_of_wide 6 Tryz.f6 rfl rfl rfl rfl rfl rfl rfl ⟨rfl,rfl,rfl,rfl,rfl⟩ rfl rfl rfl rfl rfl f_fn Tryz.func6 f_facts
  f_inst (by unfold Func.isWrapper;first | (rw[HI (by decide +kernel)];kernel_rfl) | (rw[E7 (by decide +kernel)];exact⟨rfl,rfl⟩))
  (fun os started H enc _=>lifted os started H enc)
theorem recoveryRefuses_card_holds:Rows.RecoveryRefusesCardSaid:=
 Claim7.holds_tied_plain_at .later [] [.data] true (true, "f9e94066edda22e01493401c6bbad435e00466c4201831aa512407ed8fe73444") false
  recoveryRefuses_holds (fun _ h=>by cases h) f_wf (fun _ h=>by cases h) recoveryRefuses_row_tie rfl ⟨rfl,rfl⟩ f_main rfl
  (fun f fn hf hfn=>by
   obtain rfl:f=6:=u5 (f_fn.symm.trans hf) |>.symm;obtain rfl:fn=Tryz.f6:=(u5 (Tryz.func6.symm.trans hfn)).symm;exact⟨f_looks,fun j t ht=>by
    rw[Tryz.params6]at ht;have hm:t∈[22,5,23]:=by simpa using Array.mem_of_getElem? ht
    exact(by simpa using List.all_eq_true.1 f_stand t hm)⟩)
  f_goes
end Go.Proofs.YtkccgiifmlhhjaaGreatDoor
