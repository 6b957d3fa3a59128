/-
  ModelDown returns true for each of its arguments: whatever acts are done to a model before it crashes, what is down allows nothing but ErrDown until it is opened again, and then each of the maps that are possible can be the one that goes on. No conditions.
-/
import Derived.Test.YtbojbpalkegahaaGreatDoorC42te
import Derived.Test.YtbojbpalkegahaaGreatDoorDownFacts
import Derived.Test.YtbojbpalkegahaaGreatDoorC42td
import Derived.Test.YtbojbpalkegahaaGreatDoorC42b
import Derived.Test.YtbojbpalkegahaaGreatDoorRows
import Derived.Test.YtbojbpalkegahaaGreatDoorCards
import Derived.Stop.Joined
import Derived.Test.YtbojbpalkegahaaGreatDoorTie
import Derived.SevenTiedAt
namespace Go.Proofs.YtbojbpalkegahaaGreatDoor
open Go.ChangeShapes Go.WideShapes Go.ChangeAt Go.WideMaps Go.WideElems Go.RowKit
open Go.AD
set_option maxRecDepth 100000
theorem walk {H:Type} {enc:TypeId × Value→H} (W:World) (base:Nat) (args:Array Value) (ds gs:List (DataW H)) (before:List MemPlace) (hval:∀(j:Nat) t v,Tryz.f6.params[j]? = some t→args[j]? = some v→Value.okWide Tryz.prog W .any base t v)
 (hW:DataW.Whole enc Tryz.prog Tryz.f6.params.toList Rows.modelDownSpec.vars false W args.toList ds gs before) (_hwt:(DataW.weightsEach Tryz.prog (Tryz.f6.params.toList++Rows.modelDownSpec.plain.varTypes Tryz.prog) (ds++gs)).all (·≤reachBytes)=true)
 (hL:laidMetH Tryz.prog [("math/bits.deBruijn32tab",Rows.laid_math_bits_deBruijn32tab),("math/bits.deBruijn64tab",Rows.laid_math_bits_deBruijn64tab),("internal/strconv.uint64pow10",Rows.laid_internal_strconv_uint64pow10),("unicode/utf8.acceptRanges",Rows.laid_unicode_utf8_acceptRanges),("strconv.ErrRange",Rows.laid_strconv_ErrRange),("strconv.ErrSyntax",Rows.laid_strconv_ErrSyntax),("drumlin/drumlinlaw42.names",Rows.laid_drumlin_drumlinlaw42_names),("unicode/utf8.first",Rows.laid_unicode_utf8_first)] W):
 Calls Tryz.prog 6 args W fun e W'=>e= .returned (.bool true)∧Dh W W':=by
 obtain⟨p,q,hA,_⟩:=hW
 have hA:DataW.TrodAll enc Tryz.prog W 0 (fun _=>true) true Tryz.f6.params.toList args.toList ds p:=hA
 exact WL hval hA (Xz (X:=LG) hL (by kernel_rfl) [6,2,5,4] (by kernel_rfl) (by decide +kernel))
theorem own:ownKnob Tryz.prog.godebug=none:=by kernel_rfl
abbrev laidL:List (String × DataW Unit):=[("math/bits.deBruijn32tab",Rows.laid_math_bits_deBruijn32tab),("math/bits.deBruijn64tab",Rows.laid_math_bits_deBruijn64tab),("internal/strconv.uint64pow10",Rows.laid_internal_strconv_uint64pow10),("unicode/utf8.acceptRanges",Rows.laid_unicode_utf8_acceptRanges),("strconv.ErrRange",Rows.laid_strconv_ErrRange),("strconv.ErrSyntax",Rows.laid_strconv_ErrSyntax),("drumlin/drumlinlaw42.names",Rows.laid_drumlin_drumlinlaw42_names),("unicode/utf8.first",Rows.laid_unicode_utf8_first)]
theorem laid_plain:(laidL.all fun x=>x.2.handleName?.isNone)=true:=by kernel_rfl
theorem lifted (os:Os) (started:os.Started) (H:Type) (enc:TypeId × Value→H):
 ReturnsInHanded {} Tryz.checked os 6 .any (fun w args=>(Rows.modelDownSpec.pre enc Tryz.prog Tryz.f6 [] false w args∧laidMetH Tryz.prog laidL w)∧sizedMet enc Tryz.prog Tryz.f6 (OpenSpec.ofChange Rows.modelDownSpec) false w args)
  (Rows.modelDownSpec.post enc Tryz.prog Tryz.f6 false true false false):=by
 refine returnsInHanded_of_change_and (C:=Tryz.checked) (X:=fun w _=>laidMetH Tryz.prog laidL w) (fun _ _ _ hh h=>h.of_heap hh) own started (by kernel_rfl) Tryz.func6
  (ChangeSpec.witness_shaped (enc:=enc) (C:=Tryz.checked) (os:=os) (X:=fun w _=>laidMetH Tryz.prog laidL w) false (World.laidAll Tryz.prog os laidL) #[.int .u8 0,.slice none 0 0,.slice none 0 0,.int .u8 0] 8 (World.laidAll_os _ _ _) (World.shaped_of_ZipB (by kernel_rfl) (by kernel_rfl)) (by kernel_rfl) (by kernel_rfl) (by kernel_rfl)
   (by rw[MakeChecks.laidMetH_plain _ _ _ laid_plain];exact laidMet_laidAll _ (by kernel_rfl) (by kernel_rfl))) ?_
 intro W base args ds gs before hval hW _ hwt hL _
 refine(walk W base args ds gs before hval hW hwt hL).mono fun e W' ⟨he,hk⟩=>?_
 subst he
 refine⟨_,rfl,Vj hW rfl (fun hg=>?_) (tb:=4) (by kernel_rfl) Tryz.underlying4 f_1 (fun t ht=>?_) hk⟩
 ·subst hg
  obtain⟨p,q,hA,_⟩:=hW
  have hA:DataW.TrodAll enc Tryz.prog W 0 (fun _=>true) true Tryz.f6.params.toList args.toList ds p:=hA
  rw[Tryz.params6]at hA
  obtain⟨_v0,_v1,_v2,_v3,d0,d1,d2,d3,p0,p1,p2,p3,_,rfl,_⟩:=trodAll_four hA
  exact⟨rfl,rfl,rfl⟩
 ·rw[Tryz.params6]at ht
  have hm:t∈[5,22,22,5]:=by simpa using ht
  have hx:=List.all_eq_true.1 f_read t hm
  have hy:Tryz.pinned.checked.prog.readableRec t=true∧t < Tryz.pinned.checked.prog.types.size:=by simpa using hx
  exact hy
theorem modelDown_holds:Rows.ModelDownSaid:=
 OpenClaim.holds_of_wide 6 Tryz.f6 rfl rfl rfl rfl rfl rfl rfl ⟨rfl,rfl,rfl,rfl,rfl⟩ rfl rfl rfl rfl rfl f_fn Tryz.func6 f_facts
  f_inst (by unfold Func.isWrapper;first | (rw[if_pos (by decide +kernel)];kernel_rfl) | (rw[if_neg (by decide +kernel)];exact⟨rfl,rfl⟩))
  (fun os started H enc _=>lifted os started H enc)
theorem modelDown_card_holds:Rows.ModelDownCardSaid:=
 Claim7.holds_tied_plain_at .later [] [.data,.data,.data,.data,.sentinel,.sentinel,.data,.pinned] true (true, "2af0768a68cfc5fb9e3d33dd48d957ed3e5086da1740a620d570ea4929630377") true
  modelDown_holds (fun _ h=>by cases h) f_wf (fun _ h=>by cases h) modelDown_row_tie rfl ⟨rfl,rfl⟩ f_main rfl
  (fun f fn hf hfn=>by
   obtain rfl:f=6:=Option.some.inj (f_fn.symm.trans hf) |>.symm
   obtain rfl:fn=Tryz.f6:=(Option.some.inj (Tryz.func6.symm.trans hfn)).symm
   exact⟨f_looks,fun j t ht=>by
    rw[Tryz.params6]at ht
    have hm:t∈[5,22,22,5]:=by simpa using Array.mem_of_getElem? ht
    exact(by simpa using List.all_eq_true.1 f_stand t hm)⟩)
  f_goes
end Go.Proofs.YtbojbpalkegahaaGreatDoor
