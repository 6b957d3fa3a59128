/-
  After any moves, Sync makes the active slot durable by one operation, or none, and changes nothing else. No conditions.
-/
import Derived.Test.YtfnfimeefeigdaaGreatDoorWyd
import Derived.Test.YtfnfimeefeigdaaGreatDoorSynFacts
import Derived.Test.YtfnfimeefeigdaaGreatDoorInc
import Derived.Test.YtfnfimeefeigdaaGreatDoorAbr
import Derived.Test.YtfnfimeefeigdaaGreatDoorRows
import Derived.Test.YtfnfimeefeigdaaGreatDoorCards
import Derived.Stop.Joined
import Derived.Test.YtfnfimeefeigdaaGreatDoorTie
import Derived.SevenTiedAt
namespace Go.Proofs.YtfnfimeefeigdaaGreatDoor
open Go.ChangeShapes Go.WideShapes Go.ChangeAt Go.WideMaps Go.WideElems Go.RowKit
open Go.AD
set_option maxRecDepth 100000
theorem walk {H:Type} {enc:TypeId × Value->H} (W:World) (base:Nat) (args:Array Value) (ds gs:List (DataW H)) (before:List MemPlace) (hval:∀(j:Nat) t v,Tryz.f3.params[j]? = some t->args[j]? = some v->Value.okWide Tryz.prog W .any base t v)
 (hW:DataW.Whole enc Tryz.prog Tryz.f3.params.toList Rows.writerSyncsSpec.vars false W args.toList ds gs before) (_hwt:(DataW.weightsEach Tryz.prog (Tryz.f3.params.toList++Rows.writerSyncsSpec.plain.varTypes Tryz.prog) (ds++gs)).all (·<=reachBytes)=true)
 (hL:laidMetH Tryz.prog [("math/bits.deBruijn64tab",Rows.laid_math_bits_deBruijn64tab),("drumlin/slots.sealing",Rows.laid_drumlin_slots_sealing)] W):
 Calls Tryz.prog 3 args W fun e W'=>e= .returned (.bool true)/\Fk W W':=by
 obtain⟨p,q,hA,_⟩:=hW;have hA:DataW.TrodAll enc Tryz.prog W 0 (fun _=>true) true Tryz.f3.params.toList args.toList ds p:=hA;exact jG hval hA (xK (X:=pR) hL (by kernel_rfl) [1,0] (by kernel_rfl) (by decide +kernel))
theorem own:ownKnob Tryz.prog.godebug=none:=by kernel_rfl
abbrev laidL:List (String × DataW Unit):=[("math/bits.deBruijn64tab",Rows.laid_math_bits_deBruijn64tab),("drumlin/slots.sealing",Rows.laid_drumlin_slots_sealing)]
theorem laid_plain:(laidL.all fun x=>x.2.handleName?.isNone)=true:=by kernel_rfl
theorem lifted (os:Os) (started:os.Started) (H:Type) (enc:TypeId × Value->H):
 ReturnsInHanded {} Tryz.checked os 3 .any (fun w args=>(Rows.writerSyncsSpec.pre enc Tryz.prog Tryz.f3 [] false w args/\laidMetH Tryz.prog laidL w)/\sizedMet enc Tryz.prog Tryz.f3 (OpenSpec.ofChange Rows.writerSyncsSpec) false w args)
  (Rows.writerSyncsSpec.post enc Tryz.prog Tryz.f3 false true false false):=by
 refine returnsInHanded_of_change_and (C:=Tryz.checked) (X:=fun w _=>laidMetH Tryz.prog laidL w) (fun _ _ _ hh h=>h.of_heap hh) own started (by kernel_rfl) Tryz.func3
  (ChangeSpec.witness_shaped (enc:=enc) (C:=Tryz.checked) (os:=os) (X:=fun w _=>laidMetH Tryz.prog laidL w) false (World.laidAll Tryz.prog os laidL) #[.agg #[.int .u8 0,.int .u8 0,.int .u8 0,.int .u8 0,.int .u8 0,.int .u8 0,.int .u8 0,.slice none 0 0]] 8 (World.laidAll_os _ _ _) (World.shaped_of_ZipB (by kernel_rfl) (by kernel_rfl)) (by kernel_rfl) (by kernel_rfl) (by kernel_rfl)
   (by rw[MakeChecks.laidMetH_plain _ _ _ laid_plain];exact laidMet_laidAll _ (by kernel_rfl) (by kernel_rfl))) ?_
 intro W base args ds gs before hval hW _ hwt hL _;refine(walk W base args ds gs before hval hW hwt hL).mono fun e W' ⟨he,hk⟩=>?_
 subst he;refine⟨_,rfl,wv hW rfl (fun hg=>?_) (tb:=4) (by kernel_rfl) Tryz.underlying4 f_1 (fun t ht=>?_) hk⟩
 ·subst hg;obtain⟨p,q,hA,_⟩:=hW;have hA:DataW.TrodAll enc Tryz.prog W 0 (fun _=>true) true Tryz.f3.params.toList args.toList ds p:=hA;rw[Tryz.params3]at hA;obtain⟨_v0,d0,_,rfl,_⟩:=trodAll_one hA;exact⟨rfl,rfl,rfl⟩
 ·rw[Tryz.params3]at ht;have hm:t∈[25]:=by simpa using ht
  have hx:=List.all_eq_true.1 f_read t hm;have hy:Tryz.pinned.checked.prog.readableRec t=true/\t < Tryz.pinned.checked.prog.types.size:=by simpa using hx
  exact hy
theorem writerSyncs_holds:Rows.WriterSyncsSaid:=
 OpenClaim.holds_of_wide 3 Tryz.f3 rfl rfl rfl rfl rfl rfl rfl ⟨rfl,rfl,rfl,rfl,rfl⟩ rfl rfl rfl rfl rfl f_fn Tryz.func3 f_facts
  f_inst (by unfold Func.isWrapper;first | (rw[MB (by decide +kernel)];kernel_rfl) | (rw[JT (by decide +kernel)];exact⟨rfl,rfl⟩))
  (fun os started H enc _=>lifted os started H enc)
theorem writerSyncs_card_holds:Rows.WriterSyncsCardSaid:=
 Claim7.holds_tied_plain_at .later [] [.data,.data] true (true, "ba07ee1b7172df926912c5380ff04cb0a94f37c6368904cbb3bed6fa5257916d") false
  writerSyncs_holds (fun _ h=>by cases h) f_wf (fun _ h=>by cases h) writerSyncs_row_tie rfl ⟨rfl,rfl⟩ f_main rfl
  (fun f fn hf hfn=>by
   obtain rfl:f=3:=AAp (f_fn.symm.trans hf) |>.symm;obtain rfl:fn=Tryz.f3:=(AAp (Tryz.func3.symm.trans hfn)).symm;exact⟨f_looks,fun j t ht=>by
    rw[Tryz.params3]at ht;have hm:t∈[25]:=by simpa using Array.mem_of_getElem? ht
    exact(by simpa using List.all_eq_true.1 f_stand t hm)⟩)
  f_goes
end Go.Proofs.YtfnfimeefeigdaaGreatDoor
