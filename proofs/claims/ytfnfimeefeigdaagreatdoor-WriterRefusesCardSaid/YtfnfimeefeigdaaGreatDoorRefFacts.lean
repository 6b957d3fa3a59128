/-
  Part of the proof. No conditions.
-/
import Derived.Test.YtfnfimeefeigdaaGreatDoorRows
import Derived.JoinedOf
import Derived.SevenTiedAt
import Derived.Stop.Joined
import Derived.KernelRfl
namespace Go.Proofs.YtfnfimeefeigdaaGreatDoor
set_option maxRecDepth 100000
open _root_.Go.Proofs.YtfnfimeefeigdaaGreatDoor.Tryz _root_.Go.Proofs.YtfnfimeefeigdaaGreatDoor.Rows
theorem f_inPlace:(writerRefusesRow.inPlace==pinned.checked.prog.inPlace 5)=true:=by kernel_rfl
theorem f_unfollowed:(writerRefusesRow.unfollowed==pinned.checked.prog.unfollowed 5)=true:=by kernel_rfl
theorem f_recurses:(writerRefusesRow.recurses==pinned.checked.prog.recurses 5)=true:=by kernel_rfl
theorem f_named:(writerRefusesRow.named==pinned.checked.prog.varsNamed 5)=true:=by kernel_rfl
theorem f_goes:false=writerRefusesRow.goesBy pinned.checked.prog:=by kernel_rfl
theorem f_looks:false=pinned.checked.prog.looks []:=by kernel_rfl
theorem andT{a b:Bool}(h:a=true)(h':b=true):(a&&b)=true:=by rw[h,h'];rfl
theorem facts_of{P:Program}{f:FuncId}{fn:Func}{s:ChangeSpec}{c:OpenClaim}(h0:(c.wf (OpenSpec.ofChange s))=true)(h1:(laidOutB P)=true)(h2:(mapsRowed P)=true)(h3:(fn.params.all (P.readableRec ·))=true)(h4:(namedTie P c.named s.vars)=true)(h5:((c.stops==[]))=true)(h6:((P.stops==[]))=true)(h7:((c.knobs==[]))=true)(h8:((P.stopKnobs==[]))=true)(h9:((c.inPlace==P.inPlace f))=true)(h10:((c.unfollowed==P.unfollowed f))=true)(h11:((c.recurses==P.recurses f))=true)(h12:((c.named==P.varsNamed f))=true)(h13:((c.maps==(fn.params.toList++s.plain.varTypes P).any (P.mapsRec ·)))=true)(h14:((c.ifaces==(fn.params.toList++s.plain.varTypes P).any (P.ifacesRec ·)))=true)(h15:((c.mapsOut==P.mapsAmong fn.resultTypes.toList))=true)(h16:((c.loops==(fn.params.toList++s.plain.varTypes P).any (P.loopsFrom ·)))=true)(h17:((c.wideKeys==(fn.params.toList++s.plain.varTypes P++fn.resultTypes.toList).any (P.wideKeysFrom ·)))=true)(h18:(s.vars.all (P.varReadable ·))=true)(h19:(fn.resultTypes.all (fun t=>P.readableRec t&&decide (t < P.types.size)))=true)(h20:((c.ifacesOut==fn.resultTypes.toList.any (P.ifacesRec ·)))=true)(h21:((c.loopsOut==fn.resultTypes.toList.any (P.loopsFrom ·)))=true)(h22:((c.plainKeys==P.plainKeys))=true)(h23:(c.shortTexts.isNone)=true)(h24:(P.stopsHeard)=true)(h25:(P.mayEnter)=true)(h26:((c.lifted==P.liftsFinal))=true)(h27:((P.make==some c.make))=true)(h28:((c.kinds==(if c.domain.isEmpty then []else fn.params.toList.map fun t=>match P.underlying t with | some (.int k)=>some k | _=>none)))=true)(h29:((c.pinned==c.pinnedBy))=true)(h30:((c.veiled==(fn.params.toList++s.plain.varTypes P++fn.resultTypes.toList).any (P.veiledRec ·)))=true)(h31:(c.veiledFits P fn.params.toList (fn.params.toList++s.plain.varTypes P++fn.resultTypes.toList))=true):joinedFacts P f fn s c=true:=by
 exact andT (andT (andT (andT (andT (andT (andT (andT (andT (andT (andT (andT (andT (andT (andT (andT (andT (andT (andT (andT (andT (andT (andT (andT (andT (andT (andT (andT (andT (andT (andT h0 h1) h2) h3) h4) h5) h6) h7) h8) h9) h10) h11) h12) h13) h14) h15) h16) h17) h18) h19) h20) h21) h22) h23) h24) h25) h26) h27) h28) h29) h30) h31
theorem f_0:(writerRefusesRow.wf (OpenSpec.ofChange writerRefusesSpec))=true:=by kernel_rfl
theorem f_1:(laidOutB pinned.checked.prog)=true:=by kernel_rfl
theorem f_2:(mapsRowed pinned.checked.prog)=true:=by kernel_rfl
theorem f_3:(Tryz.f5.params.all (pinned.checked.prog.readableRec ·))=true:=by kernel_rfl
theorem f_4:(namedTie pinned.checked.prog writerRefusesRow.named writerRefusesSpec.vars)=true:=by kernel_rfl
theorem f_5:((writerRefusesRow.stops==[]))=true:=by kernel_rfl
theorem f_6:((pinned.checked.prog.stops==[]))=true:=by kernel_rfl
theorem f_7:((writerRefusesRow.knobs==[]))=true:=by kernel_rfl
theorem f_8:((pinned.checked.prog.stopKnobs==[]))=true:=by kernel_rfl
theorem f_13:((writerRefusesRow.maps==(Tryz.f5.params.toList++writerRefusesSpec.plain.varTypes pinned.checked.prog).any (pinned.checked.prog.mapsRec ·)))=true:=by kernel_rfl
theorem f_14:((writerRefusesRow.ifaces==(Tryz.f5.params.toList++writerRefusesSpec.plain.varTypes pinned.checked.prog).any (pinned.checked.prog.ifacesRec ·)))=true:=by kernel_rfl
theorem f_15:((writerRefusesRow.mapsOut==pinned.checked.prog.mapsAmong Tryz.f5.resultTypes.toList))=true:=by kernel_rfl
theorem f_16:((writerRefusesRow.loops==(Tryz.f5.params.toList++writerRefusesSpec.plain.varTypes pinned.checked.prog).any (pinned.checked.prog.loopsFrom ·)))=true:=by kernel_rfl
theorem f_17:((writerRefusesRow.wideKeys==(Tryz.f5.params.toList++writerRefusesSpec.plain.varTypes pinned.checked.prog++Tryz.f5.resultTypes.toList).any (pinned.checked.prog.wideKeysFrom ·)))=true:=by kernel_rfl
theorem f_18:(writerRefusesSpec.vars.all (pinned.checked.prog.varReadable ·))=true:=by kernel_rfl
theorem f_19:(Tryz.f5.resultTypes.all (fun t=>pinned.checked.prog.readableRec t&&decide (t < pinned.checked.prog.types.size)))=true:=by kernel_rfl
theorem f_20:((writerRefusesRow.ifacesOut==Tryz.f5.resultTypes.toList.any (pinned.checked.prog.ifacesRec ·)))=true:=by kernel_rfl
theorem f_21:((writerRefusesRow.loopsOut==Tryz.f5.resultTypes.toList.any (pinned.checked.prog.loopsFrom ·)))=true:=by kernel_rfl
theorem f_22:((writerRefusesRow.plainKeys==pinned.checked.prog.plainKeys))=true:=by kernel_rfl
theorem f_23:(writerRefusesRow.shortTexts.isNone)=true:=by kernel_rfl
theorem f_24:(pinned.checked.prog.stopsHeard)=true:=by kernel_rfl
theorem strip_cut(rest:List (List Char)):stripLifts liftWords ("cut".toList::rest)=([], "cut".toList::rest):=by kernel_rfl
theorem mayEnter_of{P:Program}{rest:List (List Char)}(hw:behindMainWord (wordsSigns P.initOrder.toList)= "cut".toList::rest)(h2:P.laysLater=false)(h3:P.bearsReflect=false)(h4:P.doorFits []=true):P.mayEnter=true:=by
 unfold Program.mayEnter;rw[hw];simp only[strip_cut,h2,h3,h4];rfl
theorem f_words:behindMainWord (wordsSigns pinned.checked.prog.initOrder.toList)= "cut".toList::(behindMainWord (wordsSigns pinned.checked.prog.initOrder.toList)).tail:=by kernel_rfl
theorem f_later:pinned.checked.prog.laysLater=false:=by kernel_rfl
theorem f_refl:pinned.checked.prog.bearsReflect=false:=by kernel_rfl
theorem f_door:pinned.checked.prog.doorFits []=true:=by kernel_rfl
theorem f_25:(pinned.checked.prog.mayEnter)=true:=mayEnter_of f_words f_later f_refl f_door
theorem f_26:((writerRefusesRow.lifted==pinned.checked.prog.liftsFinal))=true:=by kernel_rfl
theorem f_27:((pinned.checked.prog.make==some writerRefusesRow.make))=true:=by kernel_rfl
theorem f_28:((writerRefusesRow.kinds==(if writerRefusesRow.domain.isEmpty then []else Tryz.f5.params.toList.map fun t=>match pinned.checked.prog.underlying t with | some (.int k)=>some k | _=>none)))=true:=by kernel_rfl
theorem f_29:((writerRefusesRow.pinned==writerRefusesRow.pinnedBy))=true:=by kernel_rfl
theorem f_30:((writerRefusesRow.veiled==(Tryz.f5.params.toList++writerRefusesSpec.plain.varTypes pinned.checked.prog++Tryz.f5.resultTypes.toList).any (pinned.checked.prog.veiledRec ·)))=true:=by kernel_rfl
theorem f_31:(writerRefusesRow.veiledFits pinned.checked.prog Tryz.f5.params.toList (Tryz.f5.params.toList++writerRefusesSpec.plain.varTypes pinned.checked.prog++Tryz.f5.resultTypes.toList))=true:=by kernel_rfl
theorem f_facts:joinedFacts pinned.checked.prog 5 Tryz.f5 writerRefusesSpec writerRefusesRow=true:=
 facts_of f_0 f_1 f_2 f_3 f_4 f_5 f_6 f_7 f_8 f_inPlace f_unfollowed f_recurses f_named f_13 f_14 f_15 f_16 f_17 f_18 f_19 f_20 f_21 f_22 f_23 f_24 f_25 f_26 f_27 f_28 f_29 f_30 f_31
theorem f_fn:pinned.checked.prog.funcNamed writerRefusesRow.func=some 5:=by kernel_rfl
theorem f_inst:Tryz.f5.isInstance pinned.checked.prog writerRefusesRow.origin writerRefusesRow.targs:=of_decide_eq_true (by kernel_rfl)
theorem f_wf:writerRefusesRow.wfByText (OpenSpec.ofChange writerRefusesSpec)=true:=by kernel_rfl
theorem f_main:pinned.checked.prog.mainIs=some (true, "ba07ee1b7172df926912c5380ff04cb0a94f37c6368904cbb3bed6fa5257916d".toList):=by kernel_rfl
theorem f_stand:([25,57].all fun u=> !pinned.checked.prog.wantsStandIn u)=true:=by kernel_rfl
theorem f_read:([25,57].all fun t=>pinned.checked.prog.readableRec t&&decide (t < pinned.checked.prog.types.size))=true:=by kernel_rfl
end Go.Proofs.YtfnfimeefeigdaaGreatDoor
