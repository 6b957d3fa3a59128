/-
  Records, sizes and numbers that are not allowed are refused, and change nothing; devices that are down are refused. No conditions.
-/
import Derived.Test.YtfnfimeefeigdaaGreatDoorSwe
import Derived.Test.YtfnfimeefeigdaaGreatDoorRefFacts
import Derived.Test.YtfnfimeefeigdaaGreatDoorRows
import Derived.Test.YtfnfimeefeigdaaGreatDoorCards
import Derived.Stop.Joined
import Derived.Test.YtfnfimeefeigdaaGreatDoorTie
import Derived.SevenTiedAt
namespace Go.Proofs.YtfnfimeefeigdaaGreatDoor
open Go.ChangeShapes Go.WideShapes Go.ChangeAt Go.WideMaps Go.WideElems Go.RowKit
open Go.AB
set_option maxRecDepth 100000
theorem walk{H:Type}{enc:TypeId × Value->H}(W:World)(base:Nat)(args:Array Value)(ds gs:List (DataW H))(before:List MemPlace)(hval:∀(j:Nat) t v,Tryz.f5.params[j]? = some t->args[j]? = some v->Value.okWide Tryz.prog W .any base t v)(hW:DataW.Whole enc Tryz.prog Tryz.f5.params.toList Rows.writerRefusesSpec.vars false W args.toList ds gs before)(_hwt:(DataW.weightsEach Tryz.prog (Tryz.f5.params.toList++Rows.writerRefusesSpec.plain.varTypes Tryz.prog) (ds++gs)).all (·<=reachBytes)=true)(hL:laidMetH Tryz.prog [("math/bits.deBruijn64tab",Rows.laid_math_bits_deBruijn64tab),("drumlin/slots.sealing",Rows.laid_drumlin_slots_sealing)] W):
 Calls Tryz.prog 5 args W fun e W'=>e= .returned (.bool true)/\FX W W':=by
 obtain⟨p,q,hA,_⟩:=hW;have hA:DataW.TrodAll enc Tryz.prog W 0 (fun _=>true) true Tryz.f5.params.toList args.toList ds p:=hA;exact iR hval hA (gA (X:=sI) hL (by kernel_rfl) [1,0] (by kernel_rfl) (by decide +kernel))
theorem own:ownKnob Tryz.prog.godebug=none:=by kernel_rfl
abbrev laidL:List (String × DataW Unit):=[("math/bits.deBruijn64tab",Rows.laid_math_bits_deBruijn64tab),("drumlin/slots.sealing",Rows.laid_drumlin_slots_sealing)]
theorem laid_plain:(laidL.all fun x=>x.2.handleName?.isNone)=true:=by kernel_rfl
theorem lifted(os:Os)(started:os.Started)(H:Type)(enc:TypeId × Value->H):
 ReturnsInHanded {} Tryz.checked os 5 .any (fun w args=>(Rows.writerRefusesSpec.pre enc Tryz.prog Tryz.f5 [] false w args/\laidMetH Tryz.prog laidL w)/\sizedMet enc Tryz.prog Tryz.f5 (OpenSpec.ofChange Rows.writerRefusesSpec) false w args)
  (Rows.writerRefusesSpec.post enc Tryz.prog Tryz.f5 false true false false):=by
 refine returnsInHanded_of_change_and (C:=Tryz.checked) (X:=fun w _=>laidMetH Tryz.prog laidL w) (fun _ _ _ hh h=>h.of_heap hh) own started (by kernel_rfl) Tryz.func5
  (ChangeSpec.witness_shaped (enc:=enc) (C:=Tryz.checked) (os:=os) (X:=fun w _=>laidMetH Tryz.prog laidL w) false (World.laidAll Tryz.prog os laidL) #[.agg #[.int .u8 0,.int .u8 0,.int .u8 0,.int .u8 0,.int .u8 0,.int .u8 0,.int .u8 0,.slice none 0 0],.int .u16 0] 8 (World.laidAll_os _ _ _) (World.shaped_of_ZipB (by kernel_rfl) (by kernel_rfl)) (by kernel_rfl) (by kernel_rfl) (by kernel_rfl)
   (by rw[MakeChecks.laidMetH_plain _ _ _ laid_plain];exact laidMet_laidAll _ (by kernel_rfl) (by kernel_rfl))) ?_
 intro W base args ds gs before hval hW _ hwt hL _;refine(walk W base args ds gs before hval hW hwt hL).mono fun e W' ⟨he,hk⟩=>?_
 subst he;refine⟨_,rfl,lX hW rfl (fun hg=>?_) (tb:=4) (by kernel_rfl) Tryz.underlying4 f_1 (fun t ht=>?_) hk⟩
 .subst hg;obtain⟨p,q,hA,_⟩:=hW;have hA:DataW.TrodAll enc Tryz.prog W 0 (fun _=>true) true Tryz.f5.params.toList args.toList ds p:=hA;rw[Tryz.params5]at hA;obtain⟨_v0,_v1,d0,d1,p0,p1,_,rfl,_⟩:=trodAll_two hA;exact⟨rfl,rfl,rfl⟩
 .rw[Tryz.params5]at ht;have hm:t∈[25,57]:=by simpa using ht
  have hx:=List.all_eq_true.1 f_read t hm;have hy:Tryz.pinned.checked.prog.readableRec t=true/\t < Tryz.pinned.checked.prog.types.size:=by simpa using hx
  exact hy
theorem writerRefuses_holds:Rows.WriterRefusesSaid:=
 OpenClaim.holds_of_wide 5 Tryz.f5 rfl rfl rfl rfl rfl rfl rfl ⟨rfl,rfl,rfl,rfl,rfl⟩ rfl rfl rfl rfl rfl f_fn Tryz.func5 f_facts
  f_inst (by unfold Func.isWrapper;first | (rw[AAZ (by decide +kernel)];kernel_rfl) | (rw[AAW (by decide +kernel)];exact⟨rfl,rfl⟩))
  (fun os started H enc _=>lifted os started H enc)
theorem writerRefuses_card_holds:Rows.WriterRefusesCardSaid:=
 Claim7.holds_tied_plain_at .later [] [.data,.data] true (true, "ba07ee1b7172df926912c5380ff04cb0a94f37c6368904cbb3bed6fa5257916d") false
  writerRefuses_holds (fun _ h=>by cases h) f_wf (fun _ h=>by cases h) writerRefuses_row_tie rfl ⟨rfl,rfl⟩ f_main rfl
  (fun f fn hf hfn=>by
   obtain rfl:f=5:=ACJ (f_fn.symm.trans hf) |>.symm;obtain rfl:fn=Tryz.f5:=(ACJ (Tryz.func5.symm.trans hfn)).symm;exact⟨f_looks,fun j t ht=>by
    rw[Tryz.params5]at ht;have hm:t∈[25,57]:=by simpa using Array.mem_of_getElem? ht
    exact(by simpa using List.all_eq_true.1 f_stand t hm)⟩)
  f_goes
end Go.Proofs.YtfnfimeefeigdaaGreatDoor
