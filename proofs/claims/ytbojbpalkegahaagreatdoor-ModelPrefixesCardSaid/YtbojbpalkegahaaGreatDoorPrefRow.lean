/-
  Behind a crash just those maps are possible that are the base with the first updates, or with all of them and the interrupted one. No conditions.
-/
import Derived.Test.YtbojbpalkegahaaGreatDoorC42wj
import Derived.Test.YtbojbpalkegahaaGreatDoorPrefFacts
import Derived.Test.YtbojbpalkegahaaGreatDoorC42wi
import Derived.Test.YtbojbpalkegahaaGreatDoorC42e
import Derived.Test.YtbojbpalkegahaaGreatDoorRows
import Derived.Test.YtbojbpalkegahaaGreatDoorCards
import Derived.Stop.Joined
import Derived.Test.YtbojbpalkegahaaGreatDoorTie
import Derived.SevenTiedAt
namespace Go.Proofs.YtbojbpalkegahaaGreatDoor
open Go.ChangeShapes Go.WideShapes Go.ChangeAt Go.WideMaps Go.WideElems Go.RowKit
open Go.AI
set_option maxRecDepth 100000
theorem walk {H:Type} {enc:TypeId × Value->H} (W:World) (base:Nat) (args:Array Value) (ds gs:List (DataW H)) (before:List MemPlace) (hval:∀(j:Nat) t v,Tryz.f5.params[j]? = some t->args[j]? = some v->Value.okWide Tryz.prog W .any base t v)
 (hW:DataW.Whole enc Tryz.prog Tryz.f5.params.toList Rows.modelPrefixesSpec.vars false W args.toList ds gs before) (_hwt:(DataW.weightsEach Tryz.prog (Tryz.f5.params.toList++Rows.modelPrefixesSpec.plain.varTypes Tryz.prog) (ds++gs)).all (·<=reachBytes)=true)
 (hL:laidMetH Tryz.prog [("math/bits.deBruijn32tab",Rows.laid_math_bits_deBruijn32tab),("math/bits.deBruijn64tab",Rows.laid_math_bits_deBruijn64tab),("internal/strconv.uint64pow10",Rows.laid_internal_strconv_uint64pow10),("unicode/utf8.acceptRanges",Rows.laid_unicode_utf8_acceptRanges),("strconv.ErrRange",Rows.laid_strconv_ErrRange),("strconv.ErrSyntax",Rows.laid_strconv_ErrSyntax),("drumlin/drumlinlaw42.names",Rows.laid_drumlin_drumlinlaw42_names),("unicode/utf8.first",Rows.laid_unicode_utf8_first)] W):
 Calls Tryz.prog 5 args W fun e W'=>e= .returned (.bool true)/\D5 W W':=by
 obtain⟨p,q,hA,_⟩:=hW;have hA:DataW.TrodAll enc Tryz.prog W 0 (fun _=>true) true Tryz.f5.params.toList args.toList ds p:=hA;exact YE hval hA (Ze (X:=E0) hL (by kernel_rfl) [6,2,5,4] (by kernel_rfl) (by decide +kernel))
theorem own:ownKnob Tryz.prog.godebug=none:=by kernel_rfl
abbrev laidL:List (String × DataW Unit):=[("math/bits.deBruijn32tab",Rows.laid_math_bits_deBruijn32tab),("math/bits.deBruijn64tab",Rows.laid_math_bits_deBruijn64tab),("internal/strconv.uint64pow10",Rows.laid_internal_strconv_uint64pow10),("unicode/utf8.acceptRanges",Rows.laid_unicode_utf8_acceptRanges),("strconv.ErrRange",Rows.laid_strconv_ErrRange),("strconv.ErrSyntax",Rows.laid_strconv_ErrSyntax),("drumlin/drumlinlaw42.names",Rows.laid_drumlin_drumlinlaw42_names),("unicode/utf8.first",Rows.laid_unicode_utf8_first)]
theorem laid_plain:(laidL.all fun x=>x.2.handleName?.isNone)=true:=by kernel_rfl
theorem lifted (os:Os) (started:os.Started) (H:Type) (enc:TypeId × Value->H):
 ReturnsInHanded {} Tryz.checked os 5 .any (fun w args=>(Rows.modelPrefixesSpec.pre enc Tryz.prog Tryz.f5 [] false w args/\laidMetH Tryz.prog laidL w)/\sizedMet enc Tryz.prog Tryz.f5 (OpenSpec.ofChange Rows.modelPrefixesSpec) false w args)
  (Rows.modelPrefixesSpec.post enc Tryz.prog Tryz.f5 false true false false):=by
 refine returnsInHanded_of_change_and (C:=Tryz.checked) (X:=fun w _=>laidMetH Tryz.prog laidL w) (fun _ _ _ hh h=>h.of_heap hh) own started (by kernel_rfl) Tryz.func5
  (ChangeSpec.witness_shaped (enc:=enc) (C:=Tryz.checked) (os:=os) (X:=fun w _=>laidMetH Tryz.prog laidL w) false (World.laidAll Tryz.prog os laidL) #[.int .u8 0,.slice none 0 0,.agg ⟨[.int .u8 0,.int .u8 0,.int .u8 0]⟩,.slice none 0 0] 8 (World.laidAll_os _ _ _) (World.shaped_of_ZipB (by kernel_rfl) (by kernel_rfl)) (by kernel_rfl) (by kernel_rfl) (by kernel_rfl)
   (by rw[MakeChecks.laidMetH_plain _ _ _ laid_plain];exact laidMet_laidAll _ (by kernel_rfl) (by kernel_rfl))) ?_
 intro W base args ds gs before hval hW _ hwt hL _;refine(walk W base args ds gs before hval hW hwt hL).mono fun e W' ⟨he,hk⟩=>?_
 subst he;refine⟨_,rfl,X6 hW rfl (fun hg=>?_) (tb:=4) (by kernel_rfl) Tryz.underlying4 f_1 (fun t ht=>?_) hk⟩
 ·subst hg;obtain⟨p,q,hA,_⟩:=hW;have hA:DataW.TrodAll enc Tryz.prog W 0 (fun _=>true) true Tryz.f5.params.toList args.toList ds p:=hA;rw[Tryz.params5]at hA;obtain⟨_v0,_v1,_v2,_v3,d0,d1,d2,d3,p0,p1,p2,p3,_,rfl,_⟩:=trodAll_four hA;exact⟨rfl,rfl,rfl⟩
 ·rw[Tryz.params5]at ht;have hm:t∈[5,22,28,22]:=by simpa using ht
  have hx:=List.all_eq_true.1 f_read t hm;have hy:Tryz.pinned.checked.prog.readableRec t=true/\t < Tryz.pinned.checked.prog.types.size:=by simpa using hx
  exact hy
theorem modelPrefixes_holds:Rows.ModelPrefixesSaid:=
 OpenClaim.holds_of_wide 5 Tryz.f5 rfl rfl rfl rfl rfl rfl rfl ⟨rfl,rfl,rfl,rfl,rfl⟩ rfl rfl rfl rfl rfl f_fn Tryz.func5 f_facts
  f_inst (by unfold Func.isWrapper;first | (rw[if_pos (by decide +kernel)];kernel_rfl) | (rw[if_neg (by decide +kernel)];exact⟨rfl,rfl⟩))
  (fun os started H enc _=>lifted os started H enc)
theorem modelPrefixes_card_holds:Rows.ModelPrefixesCardSaid:=
 Claim7.holds_tied_plain_at .later [] [.data,.data,.data,.data,.sentinel,.sentinel,.data,.pinned] true (true, "2af0768a68cfc5fb9e3d33dd48d957ed3e5086da1740a620d570ea4929630377") true
  modelPrefixes_holds (fun _ h=>by cases h) f_wf (fun _ h=>by cases h) modelPrefixes_row_tie rfl ⟨rfl,rfl⟩ f_main rfl
  (fun f fn hf hfn=>by
   obtain rfl:f=5:=Option.some.inj (f_fn.symm.trans hf) |>.symm;obtain rfl:fn=Tryz.f5:=(Option.some.inj (Tryz.func5.symm.trans hfn)).symm;exact⟨f_looks,fun j t ht=>by
    rw[Tryz.params5]at ht;have hm:t∈[5,22,28,22]:=by simpa using Array.mem_of_getElem? ht
    exact(by simpa using List.all_eq_true.1 f_stand t hm)⟩)
  f_goes
end Go.Proofs.YtbojbpalkegahaaGreatDoor
