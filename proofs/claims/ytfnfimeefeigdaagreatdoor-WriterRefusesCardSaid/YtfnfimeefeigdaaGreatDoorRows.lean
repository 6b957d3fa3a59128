/-
  NARROWER THAN 'FOR EVERY INPUT', by the rows' own cells (each row's printed sentence says how): WriterSyncs: laid · WriterBusy: laid · WriterRefuses: laid · WriterAppends: laid · WriterPrefix: laid.
  DERIVED. THE GIVEN ROWS OF THIS SEAT. 5 by the template 'for every input the law returns true; each argument reads behind the call as it read before'; 0 by the template 'total and deterministic' (their statements: YtfnfimeefeigdaaGreatDoorTotals.lean).
  GIVEN WITH THE SEED: the statements are not yours to turn. If you find one false, say at which input.
  Laid BY PROGRAM, IN A SANDBOX (cutbox-rows.mjs): the forced cells as the released guide's own fill.sh prints them over the translation af47354d5a866634… (all of the seat's roots in one cut). By AI agents, Wed Nov 11 2026. No macro, syntax, notation, axiom, sorry.
-/
import Derived.Test.YtfnfimeefeigdaaGreatDoorChecked
import GoSem.Claim
import GoSem.ClaimJoined
import GoSem.ClaimMapViews
import Derived.JoinedTies
import Derived.KernelRfl
namespace Go.Proofs.YtfnfimeefeigdaaGreatDoor
/- THE CELL 'sum', in the pinned program and in every row, IS THE sha256 OF THE DUMP (.gsa) THAT YtfnfimeefeigdaaGreatDoorProg.lean LOADS. Nothing in Lean hashes anything: it is a label: what it is worth is what the hold of that sum in a sandbox is worth. -/
noncomputable def Tryz.pinned : Pinned := { name := "ytfnfimeefeigdaagreatdoor", sum := "af47354d5a866634f2ec4c344ddf6a6a4039a975eab42ae1494128018f87d056", checked := Tryz.checked }
namespace Rows
def none {H : Type} : Left H := { results := [], args := [] }

/- WHAT THE LISTED PACKAGE-LEVEL VARIABLES READ AS WHEN THE CALL BEGINS. Each datum BY PROGRAM (the guide's laid-datum.mjs) off the statement by which the dump's own 'gosem.cut.vars' lays the variable. In a bare row this is a premise. The card (YtfnfimeefeigdaaGreatDoorCards.lean) ties it to the program's text. -/
def laid_math_bits_deBruijn64tab {H : Type} : DataW H := .agg [.lit (.int .u8 0), .lit (.int .u8 1), .lit (.int .u8 56), .lit (.int .u8 2), .lit (.int .u8 57), .lit (.int .u8 49), .lit (.int .u8 28), .lit (.int .u8 3), .lit (.int .u8 61), .lit (.int .u8 58), .lit (.int .u8 42), .lit (.int .u8 50), .lit (.int .u8 38), .lit (.int .u8 29), .lit (.int .u8 17), .lit (.int .u8 4), .lit (.int .u8 62), .lit (.int .u8 47), .lit (.int .u8 59), .lit (.int .u8 36), .lit (.int .u8 45), .lit (.int .u8 43), .lit (.int .u8 51), .lit (.int .u8 22), .lit (.int .u8 53), .lit (.int .u8 39), .lit (.int .u8 33), .lit (.int .u8 30), .lit (.int .u8 24), .lit (.int .u8 18), .lit (.int .u8 12), .lit (.int .u8 5), .lit (.int .u8 63), .lit (.int .u8 55), .lit (.int .u8 48), .lit (.int .u8 27), .lit (.int .u8 60), .lit (.int .u8 41), .lit (.int .u8 37), .lit (.int .u8 16), .lit (.int .u8 46), .lit (.int .u8 35), .lit (.int .u8 44), .lit (.int .u8 21), .lit (.int .u8 52), .lit (.int .u8 32), .lit (.int .u8 23), .lit (.int .u8 11), .lit (.int .u8 54), .lit (.int .u8 26), .lit (.int .u8 40), .lit (.int .u8 15), .lit (.int .u8 34), .lit (.int .u8 20), .lit (.int .u8 31), .lit (.int .u8 10), .lit (.int .u8 25), .lit (.int .u8 14), .lit (.int .u8 19), .lit (.int .u8 9), .lit (.int .u8 13), .lit (.int .u8 8), .lit (.int .u8 7), .lit (.int .u8 6)]
def laid_drumlin_slots_sealing {H : Type} : DataW H := .agg [.agg [.lit (.bool false), .lit (.bool true), .lit (.bool false), .lit (.bool false), .lit (.bool true)], .lit (.int .i64 2)]

/-- 'drumlinlaw33.WriterSyncs': WHATEVER THE INPUT: true; the input reads as it did. -/
def writerSyncsSpec : ChangeSpec := { name := "writerSyncs", fn := fun _ => fun
  | [d] => { results := [.lit (.bool true)], args := [d] }
  | _ => none }
def writerSyncsRow : OpenClaim := { program := "ytfnfimeefeigdaagreatdoor", sum := "af47354d5a866634f2ec4c344ddf6a6a4039a975eab42ae1494128018f87d056", func := "drumlin/drumlinlaw33.WriterSyncs", spec := "writerSyncs", inPlace := ["internal/abi.NoEscape", "internal/bytealg.MakeNoZero", "internal/bytealg.IndexByteString", "internal/bytealg.IndexString", "slices.overlaps[drumlin/api.Entry]", "slices.overlaps[drumlin/ordmap.item[string, drumlin/index.list]]"], unfollowed := true, recurses := true, named := ["math/bits.deBruijn64tab", "drumlin/slots.sealing", "internal/bytealg.MaxLen"], apart := false, laid := [("math/bits.deBruijn64tab", laid_math_bits_deBruijn64tab), ("drumlin/slots.sealing", laid_drumlin_slots_sealing)] }
def WriterSyncsSaid : Prop := writerSyncsRow.holds Tryz.pinned (OpenSpec.ofChange writerSyncsSpec)

/-- ITS FALSE NEIGHBOUR: 'it returns false'. Refute it at one input. -/
def writerSyncsWrong : ChangeSpec := { name := "writerSyncs", fn := fun _ => fun
  | [d] => { results := [.lit (.bool false)], args := [d] }
  | _ => none }
def WriterSyncsWrongFalsely : Prop := writerSyncsRow.holds Tryz.pinned (OpenSpec.ofChange writerSyncsWrong)

/-- 'drumlinlaw33.WriterBusy': WHATEVER THE INPUT: true; the input reads as it did. -/
def writerBusySpec : ChangeSpec := { name := "writerBusy", fn := fun _ => fun
  | [d1, d2] => { results := [.lit (.bool true)], args := [d1, d2] }
  | _ => none }
def writerBusyRow : OpenClaim := { program := "ytfnfimeefeigdaagreatdoor", sum := "af47354d5a866634f2ec4c344ddf6a6a4039a975eab42ae1494128018f87d056", func := "drumlin/drumlinlaw33.WriterBusy", spec := "writerBusy", inPlace := ["internal/abi.NoEscape", "internal/bytealg.MakeNoZero", "internal/bytealg.IndexByteString", "internal/bytealg.IndexString", "slices.overlaps[drumlin/api.Entry]", "slices.overlaps[drumlin/ordmap.item[string, drumlin/index.list]]"], unfollowed := true, recurses := true, named := ["math/bits.deBruijn64tab", "drumlin/slots.sealing", "internal/bytealg.MaxLen"], apart := false, laid := [("math/bits.deBruijn64tab", laid_math_bits_deBruijn64tab), ("drumlin/slots.sealing", laid_drumlin_slots_sealing)] }
def WriterBusySaid : Prop := writerBusyRow.holds Tryz.pinned (OpenSpec.ofChange writerBusySpec)

/-- ITS FALSE NEIGHBOUR: 'it returns false'. Refute it at one input. -/
def writerBusyWrong : ChangeSpec := { name := "writerBusy", fn := fun _ => fun
  | [d1, d2] => { results := [.lit (.bool false)], args := [d1, d2] }
  | _ => none }
def WriterBusyWrongFalsely : Prop := writerBusyRow.holds Tryz.pinned (OpenSpec.ofChange writerBusyWrong)

/-- 'drumlinlaw33.WriterRefuses': WHATEVER THE INPUT: true; the input reads as it did. -/
def writerRefusesSpec : ChangeSpec := { name := "writerRefuses", fn := fun _ => fun
  | [d1, d2] => { results := [.lit (.bool true)], args := [d1, d2] }
  | _ => none }
def writerRefusesRow : OpenClaim := { program := "ytfnfimeefeigdaagreatdoor", sum := "af47354d5a866634f2ec4c344ddf6a6a4039a975eab42ae1494128018f87d056", func := "drumlin/drumlinlaw33.WriterRefuses", spec := "writerRefuses", inPlace := ["internal/abi.NoEscape", "internal/bytealg.MakeNoZero", "internal/bytealg.IndexByteString", "internal/bytealg.IndexString", "slices.overlaps[drumlin/api.Entry]", "slices.overlaps[drumlin/ordmap.item[string, drumlin/index.list]]"], unfollowed := true, recurses := true, named := ["math/bits.deBruijn64tab", "drumlin/slots.sealing", "internal/bytealg.MaxLen"], apart := false, laid := [("math/bits.deBruijn64tab", laid_math_bits_deBruijn64tab), ("drumlin/slots.sealing", laid_drumlin_slots_sealing)] }
def WriterRefusesSaid : Prop := writerRefusesRow.holds Tryz.pinned (OpenSpec.ofChange writerRefusesSpec)

/-- ITS FALSE NEIGHBOUR: 'it returns false'. Refute it at one input. -/
def writerRefusesWrong : ChangeSpec := { name := "writerRefuses", fn := fun _ => fun
  | [d1, d2] => { results := [.lit (.bool false)], args := [d1, d2] }
  | _ => none }
def WriterRefusesWrongFalsely : Prop := writerRefusesRow.holds Tryz.pinned (OpenSpec.ofChange writerRefusesWrong)

/-- 'drumlinlaw33.WriterAppends': WHATEVER THE INPUT: true; the input reads as it did. -/
def writerAppendsSpec : ChangeSpec := { name := "writerAppends", fn := fun _ => fun
  | [d1, d2] => { results := [.lit (.bool true)], args := [d1, d2] }
  | _ => none }
def writerAppendsRow : OpenClaim := { program := "ytfnfimeefeigdaagreatdoor", sum := "af47354d5a866634f2ec4c344ddf6a6a4039a975eab42ae1494128018f87d056", func := "drumlin/drumlinlaw33.WriterAppends", spec := "writerAppends", inPlace := ["internal/abi.NoEscape", "internal/bytealg.MakeNoZero", "internal/bytealg.IndexByteString", "internal/bytealg.IndexString", "slices.overlaps[drumlin/api.Entry]", "slices.overlaps[drumlin/ordmap.item[string, drumlin/index.list]]"], unfollowed := true, recurses := true, named := ["math/bits.deBruijn64tab", "drumlin/slots.sealing", "internal/bytealg.MaxLen"], apart := false, laid := [("math/bits.deBruijn64tab", laid_math_bits_deBruijn64tab), ("drumlin/slots.sealing", laid_drumlin_slots_sealing)] }
def WriterAppendsSaid : Prop := writerAppendsRow.holds Tryz.pinned (OpenSpec.ofChange writerAppendsSpec)

/-- ITS FALSE NEIGHBOUR: 'it returns false'. Refute it at one input. -/
def writerAppendsWrong : ChangeSpec := { name := "writerAppends", fn := fun _ => fun
  | [d1, d2] => { results := [.lit (.bool false)], args := [d1, d2] }
  | _ => none }
def WriterAppendsWrongFalsely : Prop := writerAppendsRow.holds Tryz.pinned (OpenSpec.ofChange writerAppendsWrong)

/-- 'drumlinlaw33.WriterPrefix': WHATEVER THE INPUT: true; the input reads as it did. -/
def writerPrefixSpec : ChangeSpec := { name := "writerPrefix", fn := fun _ => fun
  | [d1, d2, d3] => { results := [.lit (.bool true)], args := [d1, d2, d3] }
  | _ => none }
def writerPrefixRow : OpenClaim := { program := "ytfnfimeefeigdaagreatdoor", sum := "af47354d5a866634f2ec4c344ddf6a6a4039a975eab42ae1494128018f87d056", func := "drumlin/drumlinlaw33.WriterPrefix", spec := "writerPrefix", inPlace := ["internal/abi.NoEscape", "internal/bytealg.MakeNoZero", "internal/bytealg.IndexByteString", "internal/bytealg.IndexString", "slices.overlaps[drumlin/api.Entry]", "slices.overlaps[drumlin/ordmap.item[string, drumlin/index.list]]"], unfollowed := true, recurses := true, named := ["math/bits.deBruijn64tab", "drumlin/slots.sealing", "internal/bytealg.MaxLen"], apart := false, laid := [("math/bits.deBruijn64tab", laid_math_bits_deBruijn64tab), ("drumlin/slots.sealing", laid_drumlin_slots_sealing)] }
def WriterPrefixSaid : Prop := writerPrefixRow.holds Tryz.pinned (OpenSpec.ofChange writerPrefixSpec)

/-- ITS FALSE NEIGHBOUR: 'it returns false'. Refute it at one input. -/
def writerPrefixWrong : ChangeSpec := { name := "writerPrefix", fn := fun _ => fun
  | [d1, d2, d3] => { results := [.lit (.bool false)], args := [d1, d2, d3] }
  | _ => none }
def WriterPrefixWrongFalsely : Prop := writerPrefixRow.holds Tryz.pinned (OpenSpec.ofChange writerPrefixWrong)

/- THE SECOND FORM. 'bulk': how many values and letters a reading holds, each counted each time it is reached (what is shared counts as often as it is met; a slice's spare places count too). A statement '..UptoSaid' is the law's where the arguments, and the package variables that the reading takes, are together of bulk at most 1048576: NARROWER than '..Said'. Prove '..Said' where nothing that the law and all that it calls make is longer than what came in: it says more and counts as full. Else prove '..UptoSaid'. A law counts once. -/
mutual
def uptoBulk {H : Type} : DataW H → Nat
  | .lit (.string bytes) => bytes.length + 1
  | .lit _ => 1
  | .nil => 1
  | .ptr d => uptoBulk d + 1
  | .slice elems spare => uptoBulkAll elems + uptoBulkAll spare + 1
  | .agg parts => uptoBulkAll parts + 1
  | .iface _ d => uptoBulk d + 1
  | .map entries => uptoBulkEntries entries + 1
  | .held _ => 1
def uptoBulkAll {H : Type} : List (DataW H) → Nat
  | [] => 0
  | d :: r => uptoBulk d + uptoBulkAll r
def uptoBulkEntries {H : Type} : List (Lit × DataW H) → Nat
  | [] => 0
  | x :: r => uptoBulkEntry x + uptoBulkEntries r
def uptoBulkEntry {H : Type} : Lit × DataW H → Nat
  | (.string bytes, d) => bytes.length + uptoBulk d + 1
  | (_, d) => uptoBulk d + 1
 end
def uptoSmall : (H : Type) → List (DataW H) → Bool := fun _ ds => decide (uptoBulkAll ds ≤ 1048576)
def OpenSpec.upto (s : _root_.Go.ChangeSpec) : _root_.Go.OpenSpec := { _root_.Go.OpenSpec.ofChange s with cond := some uptoSmall }

/-- 'drumlinlaw33.WriterSyncs', WHERE WHAT IT READS IS OF BULK AT MOST 1048576: true; the input reads as it did. -/
def writerSyncsUptoRow : OpenClaim := { program := "ytfnfimeefeigdaagreatdoor", sum := "af47354d5a866634f2ec4c344ddf6a6a4039a975eab42ae1494128018f87d056", func := "drumlin/drumlinlaw33.WriterSyncs", spec := "writerSyncs", inPlace := ["internal/abi.NoEscape", "internal/bytealg.MakeNoZero", "internal/bytealg.IndexByteString", "internal/bytealg.IndexString", "slices.overlaps[drumlin/api.Entry]", "slices.overlaps[drumlin/ordmap.item[string, drumlin/index.list]]"], unfollowed := true, recurses := true, named := ["math/bits.deBruijn64tab", "drumlin/slots.sealing", "internal/bytealg.MaxLen"], apart := false, laid := [("math/bits.deBruijn64tab", laid_math_bits_deBruijn64tab), ("drumlin/slots.sealing", laid_drumlin_slots_sealing)], narrowed := true }
def WriterSyncsUptoSaid : Prop := writerSyncsUptoRow.holds Tryz.pinned (OpenSpec.upto writerSyncsSpec)

/-- 'drumlinlaw33.WriterBusy', WHERE WHAT IT READS IS OF BULK AT MOST 1048576: true; the input reads as it did. -/
def writerBusyUptoRow : OpenClaim := { program := "ytfnfimeefeigdaagreatdoor", sum := "af47354d5a866634f2ec4c344ddf6a6a4039a975eab42ae1494128018f87d056", func := "drumlin/drumlinlaw33.WriterBusy", spec := "writerBusy", inPlace := ["internal/abi.NoEscape", "internal/bytealg.MakeNoZero", "internal/bytealg.IndexByteString", "internal/bytealg.IndexString", "slices.overlaps[drumlin/api.Entry]", "slices.overlaps[drumlin/ordmap.item[string, drumlin/index.list]]"], unfollowed := true, recurses := true, named := ["math/bits.deBruijn64tab", "drumlin/slots.sealing", "internal/bytealg.MaxLen"], apart := false, laid := [("math/bits.deBruijn64tab", laid_math_bits_deBruijn64tab), ("drumlin/slots.sealing", laid_drumlin_slots_sealing)], narrowed := true }
def WriterBusyUptoSaid : Prop := writerBusyUptoRow.holds Tryz.pinned (OpenSpec.upto writerBusySpec)

/-- 'drumlinlaw33.WriterRefuses', WHERE WHAT IT READS IS OF BULK AT MOST 1048576: true; the input reads as it did. -/
def writerRefusesUptoRow : OpenClaim := { program := "ytfnfimeefeigdaagreatdoor", sum := "af47354d5a866634f2ec4c344ddf6a6a4039a975eab42ae1494128018f87d056", func := "drumlin/drumlinlaw33.WriterRefuses", spec := "writerRefuses", inPlace := ["internal/abi.NoEscape", "internal/bytealg.MakeNoZero", "internal/bytealg.IndexByteString", "internal/bytealg.IndexString", "slices.overlaps[drumlin/api.Entry]", "slices.overlaps[drumlin/ordmap.item[string, drumlin/index.list]]"], unfollowed := true, recurses := true, named := ["math/bits.deBruijn64tab", "drumlin/slots.sealing", "internal/bytealg.MaxLen"], apart := false, laid := [("math/bits.deBruijn64tab", laid_math_bits_deBruijn64tab), ("drumlin/slots.sealing", laid_drumlin_slots_sealing)], narrowed := true }
def WriterRefusesUptoSaid : Prop := writerRefusesUptoRow.holds Tryz.pinned (OpenSpec.upto writerRefusesSpec)

/-- 'drumlinlaw33.WriterAppends', WHERE WHAT IT READS IS OF BULK AT MOST 1048576: true; the input reads as it did. -/
def writerAppendsUptoRow : OpenClaim := { program := "ytfnfimeefeigdaagreatdoor", sum := "af47354d5a866634f2ec4c344ddf6a6a4039a975eab42ae1494128018f87d056", func := "drumlin/drumlinlaw33.WriterAppends", spec := "writerAppends", inPlace := ["internal/abi.NoEscape", "internal/bytealg.MakeNoZero", "internal/bytealg.IndexByteString", "internal/bytealg.IndexString", "slices.overlaps[drumlin/api.Entry]", "slices.overlaps[drumlin/ordmap.item[string, drumlin/index.list]]"], unfollowed := true, recurses := true, named := ["math/bits.deBruijn64tab", "drumlin/slots.sealing", "internal/bytealg.MaxLen"], apart := false, laid := [("math/bits.deBruijn64tab", laid_math_bits_deBruijn64tab), ("drumlin/slots.sealing", laid_drumlin_slots_sealing)], narrowed := true }
def WriterAppendsUptoSaid : Prop := writerAppendsUptoRow.holds Tryz.pinned (OpenSpec.upto writerAppendsSpec)

/-- 'drumlinlaw33.WriterPrefix', WHERE WHAT IT READS IS OF BULK AT MOST 1048576: true; the input reads as it did. -/
def writerPrefixUptoRow : OpenClaim := { program := "ytfnfimeefeigdaagreatdoor", sum := "af47354d5a866634f2ec4c344ddf6a6a4039a975eab42ae1494128018f87d056", func := "drumlin/drumlinlaw33.WriterPrefix", spec := "writerPrefix", inPlace := ["internal/abi.NoEscape", "internal/bytealg.MakeNoZero", "internal/bytealg.IndexByteString", "internal/bytealg.IndexString", "slices.overlaps[drumlin/api.Entry]", "slices.overlaps[drumlin/ordmap.item[string, drumlin/index.list]]"], unfollowed := true, recurses := true, named := ["math/bits.deBruijn64tab", "drumlin/slots.sealing", "internal/bytealg.MaxLen"], apart := false, laid := [("math/bits.deBruijn64tab", laid_math_bits_deBruijn64tab), ("drumlin/slots.sealing", laid_drumlin_slots_sealing)], narrowed := true }
def WriterPrefixUptoSaid : Prop := writerPrefixUptoRow.holds Tryz.pinned (OpenSpec.upto writerPrefixSpec)

end Rows
end Go.Proofs.YtfnfimeefeigdaaGreatDoor
