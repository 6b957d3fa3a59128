/-
  NARROWER THAN 'FOR EVERY INPUT', by the rows' own cells (each row's printed sentence says how): WriterNil: laid · RecoveryNil: laid · RecoverySyncs: laid · RecoveryTears: laid · RecoveryFinds: laid · OutputFills: laid · OutputCopies: laid · RecoveryPlays: laid · WriterBusy: laid · OutputPlays: laid · RecoveryRefuses: laid · OutputRefuses: laid · WriterSyncs: laid · WriterRefuses: laid · WriterPlays: laid · OutputCrashes: laid · OutputCloses: laid · WriterPrefix: laid · WriterAppends: laid.
  DERIVED. THE GIVEN ROWS OF THIS SEAT. 19 by the template 'for every input the law returns true; each argument reads behind the call as it read before'; 0 by the template 'total and deterministic' (their statements: YtehdneclbfldaaaGreatDoorTotals.lean).
  GIVEN WITH THE SEED: the statements are not yours to turn. If you find one false, say at which input.
  Laid BY PROGRAM, IN A SANDBOX (cutbox-rows.mjs): the forced cells as the released guide's own fill.sh prints them over the translation 86efcdef9757a1b1… (all of the seat's roots in one cut). By AI agents, Wed Nov 11 2026. No macro, syntax, notation, axiom, sorry.
-/
import Derived.Test.YtehdneclbfldaaaGreatDoorChecked
import GoSem.Claim
import GoSem.ClaimJoined
import GoSem.ClaimMapViews
import Derived.JoinedTies
import Derived.KernelRfl
namespace Go.Proofs.YtehdneclbfldaaaGreatDoor
/- THE CELL 'sum', in the pinned program and in every row, IS THE sha256 OF THE DUMP (.gsa) THAT YtehdneclbfldaaaGreatDoorProg.lean LOADS. Nothing in Lean hashes anything: it is a label: what it is worth is what the hold of that sum in a sandbox is worth. -/
noncomputable def Tryz.pinned : Pinned := { name := "ytehdneclbfldaaagreatdoor", sum := "86efcdef9757a1b1f8056fa939d736c0f737101d372dce9fb2e2050542d496fe", checked := Tryz.checked }
namespace Rows
def none {H : Type} : Left H := { results := [], args := [] }

/- WHAT THE LISTED PACKAGE-LEVEL VARIABLES READ AS WHEN THE CALL BEGINS. Each datum BY PROGRAM (the guide's laid-datum.mjs) off the statement by which the dump's own 'gosem.cut.vars' lays the variable. In a bare row this is a premise. The card (YtehdneclbfldaaaGreatDoorCards.lean) ties it to the program's text. -/
def laid_math_bits_deBruijn64tab {H : Type} : DataW H := .agg [.lit (.int .u8 0), .lit (.int .u8 1), .lit (.int .u8 56), .lit (.int .u8 2), .lit (.int .u8 57), .lit (.int .u8 49), .lit (.int .u8 28), .lit (.int .u8 3), .lit (.int .u8 61), .lit (.int .u8 58), .lit (.int .u8 42), .lit (.int .u8 50), .lit (.int .u8 38), .lit (.int .u8 29), .lit (.int .u8 17), .lit (.int .u8 4), .lit (.int .u8 62), .lit (.int .u8 47), .lit (.int .u8 59), .lit (.int .u8 36), .lit (.int .u8 45), .lit (.int .u8 43), .lit (.int .u8 51), .lit (.int .u8 22), .lit (.int .u8 53), .lit (.int .u8 39), .lit (.int .u8 33), .lit (.int .u8 30), .lit (.int .u8 24), .lit (.int .u8 18), .lit (.int .u8 12), .lit (.int .u8 5), .lit (.int .u8 63), .lit (.int .u8 55), .lit (.int .u8 48), .lit (.int .u8 27), .lit (.int .u8 60), .lit (.int .u8 41), .lit (.int .u8 37), .lit (.int .u8 16), .lit (.int .u8 46), .lit (.int .u8 35), .lit (.int .u8 44), .lit (.int .u8 21), .lit (.int .u8 52), .lit (.int .u8 32), .lit (.int .u8 23), .lit (.int .u8 11), .lit (.int .u8 54), .lit (.int .u8 26), .lit (.int .u8 40), .lit (.int .u8 15), .lit (.int .u8 34), .lit (.int .u8 20), .lit (.int .u8 31), .lit (.int .u8 10), .lit (.int .u8 25), .lit (.int .u8 14), .lit (.int .u8 19), .lit (.int .u8 9), .lit (.int .u8 13), .lit (.int .u8 8), .lit (.int .u8 7), .lit (.int .u8 6)]
def laid_drumlin_slots_sealing {H : Type} : DataW H := .agg [.agg [.lit (.bool false), .lit (.bool true), .lit (.bool false), .lit (.bool false), .lit (.bool true)], .lit (.int .i64 2)]
def laid_drumlin_slots_loading {H : Type} : DataW H := .agg [.agg [.lit (.bool true), .lit (.bool false), .lit (.bool false), .lit (.bool false), .lit (.bool false)], .lit (.int .i64 2)]

/-- 'drumlinlaw33.WriterNil': WHATEVER THE INPUT: true; the input reads as it did. -/
def writerNilSpec : ChangeSpec := { name := "writerNil", fn := fun _ => fun
  | [d] => { results := [.lit (.bool true)], args := [d] }
  | _ => none }
def writerNilRow : OpenClaim := { program := "ytehdneclbfldaaagreatdoor", sum := "86efcdef9757a1b1f8056fa939d736c0f737101d372dce9fb2e2050542d496fe", func := "drumlin/drumlinlaw33.WriterNil", spec := "writerNil", inPlace := ["internal/bytealg.IndexByteString", "internal/bytealg.IndexString", "slices.overlaps[drumlin/api.Entry]", "slices.overlaps[drumlin/ordmap.item[string, drumlin/index.list]]"], unfollowed := true, recurses := true, named := ["math/bits.deBruijn64tab", "drumlin/slots.sealing", "internal/bytealg.MaxLen"], apart := false, laid := [("math/bits.deBruijn64tab", laid_math_bits_deBruijn64tab), ("drumlin/slots.sealing", laid_drumlin_slots_sealing)] }
def WriterNilSaid : Prop := writerNilRow.holds Tryz.pinned (OpenSpec.ofChange writerNilSpec)

/-- ITS FALSE NEIGHBOUR: 'it returns false'. Refute it at one input. -/
def writerNilWrong : ChangeSpec := { name := "writerNil", fn := fun _ => fun
  | [d] => { results := [.lit (.bool false)], args := [d] }
  | _ => none }
def WriterNilWrongFalsely : Prop := writerNilRow.holds Tryz.pinned (OpenSpec.ofChange writerNilWrong)

/-- 'drumlinlaw35.RecoveryNil': WHATEVER THE INPUT: true; the input reads as it did. -/
def recoveryNilSpec : ChangeSpec := { name := "recoveryNil", fn := fun _ => fun
  | [d] => { results := [.lit (.bool true)], args := [d] }
  | _ => none }
def recoveryNilRow : OpenClaim := { program := "ytehdneclbfldaaagreatdoor", sum := "86efcdef9757a1b1f8056fa939d736c0f737101d372dce9fb2e2050542d496fe", func := "drumlin/drumlinlaw35.RecoveryNil", spec := "recoveryNil", inPlace := ["internal/bytealg.IndexByteString", "internal/bytealg.IndexString", "slices.overlaps[drumlin/api.Entry]", "slices.overlaps[drumlin/ordmap.item[string, drumlin/index.list]]"], unfollowed := true, recurses := true, named := ["drumlin/slots.loading", "internal/bytealg.MaxLen"], apart := false, laid := [("drumlin/slots.loading", laid_drumlin_slots_loading)] }
def RecoveryNilSaid : Prop := recoveryNilRow.holds Tryz.pinned (OpenSpec.ofChange recoveryNilSpec)

/-- ITS FALSE NEIGHBOUR: 'it returns false'. Refute it at one input. -/
def recoveryNilWrong : ChangeSpec := { name := "recoveryNil", fn := fun _ => fun
  | [d] => { results := [.lit (.bool false)], args := [d] }
  | _ => none }
def RecoveryNilWrongFalsely : Prop := recoveryNilRow.holds Tryz.pinned (OpenSpec.ofChange recoveryNilWrong)

/-- 'drumlinlaw35.RecoverySyncs': WHATEVER THE INPUT: true; the input reads as it did. -/
def recoverySyncsSpec : ChangeSpec := { name := "recoverySyncs", fn := fun _ => fun
  | [d1, d2, d3] => { results := [.lit (.bool true)], args := [d1, d2, d3] }
  | _ => none }
def recoverySyncsRow : OpenClaim := { program := "ytehdneclbfldaaagreatdoor", sum := "86efcdef9757a1b1f8056fa939d736c0f737101d372dce9fb2e2050542d496fe", func := "drumlin/drumlinlaw35.RecoverySyncs", spec := "recoverySyncs", inPlace := ["internal/bytealg.IndexByteString", "internal/bytealg.IndexString", "slices.overlaps[drumlin/api.Entry]", "slices.overlaps[drumlin/ordmap.item[string, drumlin/index.list]]"], unfollowed := true, recurses := true, named := ["drumlin/slots.loading", "internal/bytealg.MaxLen"], apart := false, laid := [("drumlin/slots.loading", laid_drumlin_slots_loading)] }
def RecoverySyncsSaid : Prop := recoverySyncsRow.holds Tryz.pinned (OpenSpec.ofChange recoverySyncsSpec)

/-- ITS FALSE NEIGHBOUR: 'it returns false'. Refute it at one input. -/
def recoverySyncsWrong : ChangeSpec := { name := "recoverySyncs", fn := fun _ => fun
  | [d1, d2, d3] => { results := [.lit (.bool false)], args := [d1, d2, d3] }
  | _ => none }
def RecoverySyncsWrongFalsely : Prop := recoverySyncsRow.holds Tryz.pinned (OpenSpec.ofChange recoverySyncsWrong)

/-- 'drumlinlaw35.RecoveryTears': WHATEVER THE INPUT: true; the input reads as it did. -/
def recoveryTearsSpec : ChangeSpec := { name := "recoveryTears", fn := fun _ => fun
  | [d1, d2, d3, d4] => { results := [.lit (.bool true)], args := [d1, d2, d3, d4] }
  | _ => none }
def recoveryTearsRow : OpenClaim := { program := "ytehdneclbfldaaagreatdoor", sum := "86efcdef9757a1b1f8056fa939d736c0f737101d372dce9fb2e2050542d496fe", func := "drumlin/drumlinlaw35.RecoveryTears", spec := "recoveryTears", inPlace := ["internal/bytealg.IndexByteString", "internal/bytealg.IndexString", "slices.overlaps[drumlin/api.Entry]", "slices.overlaps[drumlin/ordmap.item[string, drumlin/index.list]]"], unfollowed := true, recurses := true, named := ["drumlin/slots.loading", "internal/bytealg.MaxLen"], apart := false, laid := [("drumlin/slots.loading", laid_drumlin_slots_loading)] }
def RecoveryTearsSaid : Prop := recoveryTearsRow.holds Tryz.pinned (OpenSpec.ofChange recoveryTearsSpec)

/-- ITS FALSE NEIGHBOUR: 'it returns false'. Refute it at one input. -/
def recoveryTearsWrong : ChangeSpec := { name := "recoveryTears", fn := fun _ => fun
  | [d1, d2, d3, d4] => { results := [.lit (.bool false)], args := [d1, d2, d3, d4] }
  | _ => none }
def RecoveryTearsWrongFalsely : Prop := recoveryTearsRow.holds Tryz.pinned (OpenSpec.ofChange recoveryTearsWrong)

/-- 'drumlinlaw35.RecoveryFinds': WHATEVER THE INPUT: true; the input reads as it did. -/
def recoveryFindsSpec : ChangeSpec := { name := "recoveryFinds", fn := fun _ => fun
  | [d1, d2, d3] => { results := [.lit (.bool true)], args := [d1, d2, d3] }
  | _ => none }
def recoveryFindsRow : OpenClaim := { program := "ytehdneclbfldaaagreatdoor", sum := "86efcdef9757a1b1f8056fa939d736c0f737101d372dce9fb2e2050542d496fe", func := "drumlin/drumlinlaw35.RecoveryFinds", spec := "recoveryFinds", inPlace := ["internal/bytealg.IndexByteString", "internal/bytealg.IndexString", "slices.overlaps[drumlin/api.Entry]", "slices.overlaps[drumlin/ordmap.item[string, drumlin/index.list]]"], unfollowed := true, recurses := true, named := ["drumlin/slots.loading", "internal/bytealg.MaxLen"], apart := false, laid := [("drumlin/slots.loading", laid_drumlin_slots_loading)] }
def RecoveryFindsSaid : Prop := recoveryFindsRow.holds Tryz.pinned (OpenSpec.ofChange recoveryFindsSpec)

/-- ITS FALSE NEIGHBOUR: 'it returns false'. Refute it at one input. -/
def recoveryFindsWrong : ChangeSpec := { name := "recoveryFinds", fn := fun _ => fun
  | [d1, d2, d3] => { results := [.lit (.bool false)], args := [d1, d2, d3] }
  | _ => none }
def RecoveryFindsWrongFalsely : Prop := recoveryFindsRow.holds Tryz.pinned (OpenSpec.ofChange recoveryFindsWrong)

/-- 'drumlinlaw29.OutputFills': WHATEVER THE INPUT: true; the input reads as it did. -/
def outputFillsSpec : ChangeSpec := { name := "outputFills", fn := fun _ => fun
  | [d1, d2] => { results := [.lit (.bool true)], args := [d1, d2] }
  | _ => none }
def outputFillsRow : OpenClaim := { program := "ytehdneclbfldaaagreatdoor", sum := "86efcdef9757a1b1f8056fa939d736c0f737101d372dce9fb2e2050542d496fe", func := "drumlin/drumlinlaw29.OutputFills", spec := "outputFills", inPlace := ["internal/abi.NoEscape", "internal/bytealg.MakeNoZero", "internal/bytealg.IndexByteString", "internal/bytealg.IndexString", "slices.overlaps[drumlin/api.Entry]", "slices.overlaps[drumlin/ordmap.item[string, drumlin/index.list]]"], unfollowed := true, recurses := true, named := ["math/bits.deBruijn64tab", "drumlin/slots.sealing", "internal/bytealg.MaxLen"], apart := false, laid := [("math/bits.deBruijn64tab", laid_math_bits_deBruijn64tab), ("drumlin/slots.sealing", laid_drumlin_slots_sealing)] }
def OutputFillsSaid : Prop := outputFillsRow.holds Tryz.pinned (OpenSpec.ofChange outputFillsSpec)

/-- ITS FALSE NEIGHBOUR: 'it returns false'. Refute it at one input. -/
def outputFillsWrong : ChangeSpec := { name := "outputFills", fn := fun _ => fun
  | [d1, d2] => { results := [.lit (.bool false)], args := [d1, d2] }
  | _ => none }
def OutputFillsWrongFalsely : Prop := outputFillsRow.holds Tryz.pinned (OpenSpec.ofChange outputFillsWrong)

/-- 'drumlinlaw29.OutputCopies': WHATEVER THE INPUT: true; the input reads as it did. -/
def outputCopiesSpec : ChangeSpec := { name := "outputCopies", fn := fun _ => fun
  | [d1, d2] => { results := [.lit (.bool true)], args := [d1, d2] }
  | _ => none }
def outputCopiesRow : OpenClaim := { program := "ytehdneclbfldaaagreatdoor", sum := "86efcdef9757a1b1f8056fa939d736c0f737101d372dce9fb2e2050542d496fe", func := "drumlin/drumlinlaw29.OutputCopies", spec := "outputCopies", inPlace := ["internal/abi.NoEscape", "internal/bytealg.MakeNoZero", "internal/bytealg.IndexByteString", "internal/bytealg.IndexString", "slices.overlaps[drumlin/api.Entry]", "slices.overlaps[drumlin/ordmap.item[string, drumlin/index.list]]"], unfollowed := true, recurses := true, named := ["math/bits.deBruijn64tab", "drumlin/slots.sealing", "internal/bytealg.MaxLen"], apart := false, laid := [("math/bits.deBruijn64tab", laid_math_bits_deBruijn64tab), ("drumlin/slots.sealing", laid_drumlin_slots_sealing)] }
def OutputCopiesSaid : Prop := outputCopiesRow.holds Tryz.pinned (OpenSpec.ofChange outputCopiesSpec)

/-- ITS FALSE NEIGHBOUR: 'it returns false'. Refute it at one input. -/
def outputCopiesWrong : ChangeSpec := { name := "outputCopies", fn := fun _ => fun
  | [d1, d2] => { results := [.lit (.bool false)], args := [d1, d2] }
  | _ => none }
def OutputCopiesWrongFalsely : Prop := outputCopiesRow.holds Tryz.pinned (OpenSpec.ofChange outputCopiesWrong)

/-- 'drumlinlaw35.RecoveryPlays': WHATEVER THE INPUT: true; the input reads as it did. -/
def recoveryPlaysSpec : ChangeSpec := { name := "recoveryPlays", fn := fun _ => fun
  | [d1, d2, d3, d4, d5] => { results := [.lit (.bool true)], args := [d1, d2, d3, d4, d5] }
  | _ => none }
def recoveryPlaysRow : OpenClaim := { program := "ytehdneclbfldaaagreatdoor", sum := "86efcdef9757a1b1f8056fa939d736c0f737101d372dce9fb2e2050542d496fe", func := "drumlin/drumlinlaw35.RecoveryPlays", spec := "recoveryPlays", inPlace := ["internal/bytealg.IndexByteString", "internal/bytealg.IndexString", "slices.overlaps[drumlin/api.Entry]", "slices.overlaps[drumlin/ordmap.item[string, drumlin/index.list]]"], unfollowed := true, recurses := true, named := ["drumlin/slots.loading", "internal/bytealg.MaxLen"], apart := false, laid := [("drumlin/slots.loading", laid_drumlin_slots_loading)] }
def RecoveryPlaysSaid : Prop := recoveryPlaysRow.holds Tryz.pinned (OpenSpec.ofChange recoveryPlaysSpec)

/-- ITS FALSE NEIGHBOUR: 'it returns false'. Refute it at one input. -/
def recoveryPlaysWrong : ChangeSpec := { name := "recoveryPlays", fn := fun _ => fun
  | [d1, d2, d3, d4, d5] => { results := [.lit (.bool false)], args := [d1, d2, d3, d4, d5] }
  | _ => none }
def RecoveryPlaysWrongFalsely : Prop := recoveryPlaysRow.holds Tryz.pinned (OpenSpec.ofChange recoveryPlaysWrong)

/-- 'drumlinlaw33.WriterBusy': WHATEVER THE INPUT: true; the input reads as it did. -/
def writerBusySpec : ChangeSpec := { name := "writerBusy", fn := fun _ => fun
  | [d1, d2] => { results := [.lit (.bool true)], args := [d1, d2] }
  | _ => none }
def writerBusyRow : OpenClaim := { program := "ytehdneclbfldaaagreatdoor", sum := "86efcdef9757a1b1f8056fa939d736c0f737101d372dce9fb2e2050542d496fe", func := "drumlin/drumlinlaw33.WriterBusy", spec := "writerBusy", inPlace := ["internal/abi.NoEscape", "internal/bytealg.MakeNoZero", "internal/bytealg.IndexByteString", "internal/bytealg.IndexString", "slices.overlaps[drumlin/api.Entry]", "slices.overlaps[drumlin/ordmap.item[string, drumlin/index.list]]"], unfollowed := true, recurses := true, named := ["math/bits.deBruijn64tab", "drumlin/slots.sealing", "internal/bytealg.MaxLen"], apart := false, laid := [("math/bits.deBruijn64tab", laid_math_bits_deBruijn64tab), ("drumlin/slots.sealing", laid_drumlin_slots_sealing)] }
def WriterBusySaid : Prop := writerBusyRow.holds Tryz.pinned (OpenSpec.ofChange writerBusySpec)

/-- ITS FALSE NEIGHBOUR: 'it returns false'. Refute it at one input. -/
def writerBusyWrong : ChangeSpec := { name := "writerBusy", fn := fun _ => fun
  | [d1, d2] => { results := [.lit (.bool false)], args := [d1, d2] }
  | _ => none }
def WriterBusyWrongFalsely : Prop := writerBusyRow.holds Tryz.pinned (OpenSpec.ofChange writerBusyWrong)

/-- 'drumlinlaw29.OutputPlays': WHATEVER THE INPUT: true; the input reads as it did. -/
def outputPlaysSpec : ChangeSpec := { name := "outputPlays", fn := fun _ => fun
  | [d1, d2] => { results := [.lit (.bool true)], args := [d1, d2] }
  | _ => none }
def outputPlaysRow : OpenClaim := { program := "ytehdneclbfldaaagreatdoor", sum := "86efcdef9757a1b1f8056fa939d736c0f737101d372dce9fb2e2050542d496fe", func := "drumlin/drumlinlaw29.OutputPlays", spec := "outputPlays", inPlace := ["internal/abi.NoEscape", "internal/bytealg.MakeNoZero", "internal/bytealg.IndexByteString", "internal/bytealg.IndexString", "slices.overlaps[drumlin/api.Entry]", "slices.overlaps[drumlin/ordmap.item[string, drumlin/index.list]]"], unfollowed := true, recurses := true, named := ["math/bits.deBruijn64tab", "drumlin/slots.sealing", "internal/bytealg.MaxLen"], apart := false, laid := [("math/bits.deBruijn64tab", laid_math_bits_deBruijn64tab), ("drumlin/slots.sealing", laid_drumlin_slots_sealing)] }
def OutputPlaysSaid : Prop := outputPlaysRow.holds Tryz.pinned (OpenSpec.ofChange outputPlaysSpec)

/-- ITS FALSE NEIGHBOUR: 'it returns false'. Refute it at one input. -/
def outputPlaysWrong : ChangeSpec := { name := "outputPlays", fn := fun _ => fun
  | [d1, d2] => { results := [.lit (.bool false)], args := [d1, d2] }
  | _ => none }
def OutputPlaysWrongFalsely : Prop := outputPlaysRow.holds Tryz.pinned (OpenSpec.ofChange outputPlaysWrong)

/-- 'drumlinlaw35.RecoveryRefuses': WHATEVER THE INPUT: true; the input reads as it did. -/
def recoveryRefusesSpec : ChangeSpec := { name := "recoveryRefuses", fn := fun _ => fun
  | [d1, d2, d3] => { results := [.lit (.bool true)], args := [d1, d2, d3] }
  | _ => none }
def recoveryRefusesRow : OpenClaim := { program := "ytehdneclbfldaaagreatdoor", sum := "86efcdef9757a1b1f8056fa939d736c0f737101d372dce9fb2e2050542d496fe", func := "drumlin/drumlinlaw35.RecoveryRefuses", spec := "recoveryRefuses", inPlace := ["internal/bytealg.IndexByteString", "internal/bytealg.IndexString", "slices.overlaps[drumlin/api.Entry]", "slices.overlaps[drumlin/ordmap.item[string, drumlin/index.list]]"], unfollowed := true, recurses := true, named := ["drumlin/slots.loading", "internal/bytealg.MaxLen"], apart := false, laid := [("drumlin/slots.loading", laid_drumlin_slots_loading)] }
def RecoveryRefusesSaid : Prop := recoveryRefusesRow.holds Tryz.pinned (OpenSpec.ofChange recoveryRefusesSpec)

/-- ITS FALSE NEIGHBOUR: 'it returns false'. Refute it at one input. -/
def recoveryRefusesWrong : ChangeSpec := { name := "recoveryRefuses", fn := fun _ => fun
  | [d1, d2, d3] => { results := [.lit (.bool false)], args := [d1, d2, d3] }
  | _ => none }
def RecoveryRefusesWrongFalsely : Prop := recoveryRefusesRow.holds Tryz.pinned (OpenSpec.ofChange recoveryRefusesWrong)

/-- 'drumlinlaw29.OutputRefuses': WHATEVER THE INPUT: true; the input reads as it did. -/
def outputRefusesSpec : ChangeSpec := { name := "outputRefuses", fn := fun _ => fun
  | [d1, d2] => { results := [.lit (.bool true)], args := [d1, d2] }
  | _ => none }
def outputRefusesRow : OpenClaim := { program := "ytehdneclbfldaaagreatdoor", sum := "86efcdef9757a1b1f8056fa939d736c0f737101d372dce9fb2e2050542d496fe", func := "drumlin/drumlinlaw29.OutputRefuses", spec := "outputRefuses", inPlace := ["internal/abi.NoEscape", "internal/bytealg.MakeNoZero", "internal/bytealg.IndexByteString", "internal/bytealg.IndexString", "slices.overlaps[drumlin/api.Entry]", "slices.overlaps[drumlin/ordmap.item[string, drumlin/index.list]]"], unfollowed := true, recurses := true, named := ["math/bits.deBruijn64tab", "drumlin/slots.sealing", "internal/bytealg.MaxLen"], apart := false, laid := [("math/bits.deBruijn64tab", laid_math_bits_deBruijn64tab), ("drumlin/slots.sealing", laid_drumlin_slots_sealing)] }
def OutputRefusesSaid : Prop := outputRefusesRow.holds Tryz.pinned (OpenSpec.ofChange outputRefusesSpec)

/-- ITS FALSE NEIGHBOUR: 'it returns false'. Refute it at one input. -/
def outputRefusesWrong : ChangeSpec := { name := "outputRefuses", fn := fun _ => fun
  | [d1, d2] => { results := [.lit (.bool false)], args := [d1, d2] }
  | _ => none }
def OutputRefusesWrongFalsely : Prop := outputRefusesRow.holds Tryz.pinned (OpenSpec.ofChange outputRefusesWrong)

/-- 'drumlinlaw33.WriterSyncs': WHATEVER THE INPUT: true; the input reads as it did. -/
def writerSyncsSpec : ChangeSpec := { name := "writerSyncs", fn := fun _ => fun
  | [d] => { results := [.lit (.bool true)], args := [d] }
  | _ => none }
def writerSyncsRow : OpenClaim := { program := "ytehdneclbfldaaagreatdoor", sum := "86efcdef9757a1b1f8056fa939d736c0f737101d372dce9fb2e2050542d496fe", func := "drumlin/drumlinlaw33.WriterSyncs", spec := "writerSyncs", inPlace := ["internal/abi.NoEscape", "internal/bytealg.MakeNoZero", "internal/bytealg.IndexByteString", "internal/bytealg.IndexString", "slices.overlaps[drumlin/api.Entry]", "slices.overlaps[drumlin/ordmap.item[string, drumlin/index.list]]"], unfollowed := true, recurses := true, named := ["math/bits.deBruijn64tab", "drumlin/slots.sealing", "internal/bytealg.MaxLen"], apart := false, laid := [("math/bits.deBruijn64tab", laid_math_bits_deBruijn64tab), ("drumlin/slots.sealing", laid_drumlin_slots_sealing)] }
def WriterSyncsSaid : Prop := writerSyncsRow.holds Tryz.pinned (OpenSpec.ofChange writerSyncsSpec)

/-- ITS FALSE NEIGHBOUR: 'it returns false'. Refute it at one input. -/
def writerSyncsWrong : ChangeSpec := { name := "writerSyncs", fn := fun _ => fun
  | [d] => { results := [.lit (.bool false)], args := [d] }
  | _ => none }
def WriterSyncsWrongFalsely : Prop := writerSyncsRow.holds Tryz.pinned (OpenSpec.ofChange writerSyncsWrong)

/-- 'drumlinlaw33.WriterRefuses': WHATEVER THE INPUT: true; the input reads as it did. -/
def writerRefusesSpec : ChangeSpec := { name := "writerRefuses", fn := fun _ => fun
  | [d1, d2] => { results := [.lit (.bool true)], args := [d1, d2] }
  | _ => none }
def writerRefusesRow : OpenClaim := { program := "ytehdneclbfldaaagreatdoor", sum := "86efcdef9757a1b1f8056fa939d736c0f737101d372dce9fb2e2050542d496fe", func := "drumlin/drumlinlaw33.WriterRefuses", spec := "writerRefuses", inPlace := ["internal/abi.NoEscape", "internal/bytealg.MakeNoZero", "internal/bytealg.IndexByteString", "internal/bytealg.IndexString", "slices.overlaps[drumlin/api.Entry]", "slices.overlaps[drumlin/ordmap.item[string, drumlin/index.list]]"], unfollowed := true, recurses := true, named := ["math/bits.deBruijn64tab", "drumlin/slots.sealing", "internal/bytealg.MaxLen"], apart := false, laid := [("math/bits.deBruijn64tab", laid_math_bits_deBruijn64tab), ("drumlin/slots.sealing", laid_drumlin_slots_sealing)] }
def WriterRefusesSaid : Prop := writerRefusesRow.holds Tryz.pinned (OpenSpec.ofChange writerRefusesSpec)

/-- ITS FALSE NEIGHBOUR: 'it returns false'. Refute it at one input. -/
def writerRefusesWrong : ChangeSpec := { name := "writerRefuses", fn := fun _ => fun
  | [d1, d2] => { results := [.lit (.bool false)], args := [d1, d2] }
  | _ => none }
def WriterRefusesWrongFalsely : Prop := writerRefusesRow.holds Tryz.pinned (OpenSpec.ofChange writerRefusesWrong)

/-- 'drumlinlaw33.WriterPlays': WHATEVER THE INPUT: true; the input reads as it did. -/
def writerPlaysSpec : ChangeSpec := { name := "writerPlays", fn := fun _ => fun
  | [d1, d2] => { results := [.lit (.bool true)], args := [d1, d2] }
  | _ => none }
def writerPlaysRow : OpenClaim := { program := "ytehdneclbfldaaagreatdoor", sum := "86efcdef9757a1b1f8056fa939d736c0f737101d372dce9fb2e2050542d496fe", func := "drumlin/drumlinlaw33.WriterPlays", spec := "writerPlays", inPlace := ["internal/abi.NoEscape", "internal/bytealg.MakeNoZero", "internal/bytealg.IndexByteString", "internal/bytealg.IndexString", "slices.overlaps[drumlin/api.Entry]", "slices.overlaps[drumlin/ordmap.item[string, drumlin/index.list]]"], unfollowed := true, recurses := true, named := ["math/bits.deBruijn64tab", "drumlin/slots.sealing", "internal/bytealg.MaxLen"], apart := false, laid := [("math/bits.deBruijn64tab", laid_math_bits_deBruijn64tab), ("drumlin/slots.sealing", laid_drumlin_slots_sealing)] }
def WriterPlaysSaid : Prop := writerPlaysRow.holds Tryz.pinned (OpenSpec.ofChange writerPlaysSpec)

/-- ITS FALSE NEIGHBOUR: 'it returns false'. Refute it at one input. -/
def writerPlaysWrong : ChangeSpec := { name := "writerPlays", fn := fun _ => fun
  | [d1, d2] => { results := [.lit (.bool false)], args := [d1, d2] }
  | _ => none }
def WriterPlaysWrongFalsely : Prop := writerPlaysRow.holds Tryz.pinned (OpenSpec.ofChange writerPlaysWrong)

/-- 'drumlinlaw29.OutputCrashes': WHATEVER THE INPUT: true; the input reads as it did. -/
def outputCrashesSpec : ChangeSpec := { name := "outputCrashes", fn := fun _ => fun
  | [d1, d2, d3, d4] => { results := [.lit (.bool true)], args := [d1, d2, d3, d4] }
  | _ => none }
def outputCrashesRow : OpenClaim := { program := "ytehdneclbfldaaagreatdoor", sum := "86efcdef9757a1b1f8056fa939d736c0f737101d372dce9fb2e2050542d496fe", func := "drumlin/drumlinlaw29.OutputCrashes", spec := "outputCrashes", inPlace := ["internal/abi.NoEscape", "internal/bytealg.MakeNoZero", "internal/bytealg.IndexByteString", "internal/bytealg.IndexString", "slices.overlaps[drumlin/api.Entry]", "slices.overlaps[drumlin/ordmap.item[string, drumlin/index.list]]"], unfollowed := true, recurses := true, named := ["math/bits.deBruijn64tab", "drumlin/slots.sealing", "internal/bytealg.MaxLen"], apart := false, laid := [("math/bits.deBruijn64tab", laid_math_bits_deBruijn64tab), ("drumlin/slots.sealing", laid_drumlin_slots_sealing)] }
def OutputCrashesSaid : Prop := outputCrashesRow.holds Tryz.pinned (OpenSpec.ofChange outputCrashesSpec)

/-- ITS FALSE NEIGHBOUR: 'it returns false'. Refute it at one input. -/
def outputCrashesWrong : ChangeSpec := { name := "outputCrashes", fn := fun _ => fun
  | [d1, d2, d3, d4] => { results := [.lit (.bool false)], args := [d1, d2, d3, d4] }
  | _ => none }
def OutputCrashesWrongFalsely : Prop := outputCrashesRow.holds Tryz.pinned (OpenSpec.ofChange outputCrashesWrong)

/-- 'drumlinlaw29.OutputCloses': WHATEVER THE INPUT: true; the input reads as it did. -/
def outputClosesSpec : ChangeSpec := { name := "outputCloses", fn := fun _ => fun
  | [d1, d2, d3] => { results := [.lit (.bool true)], args := [d1, d2, d3] }
  | _ => none }
def outputClosesRow : OpenClaim := { program := "ytehdneclbfldaaagreatdoor", sum := "86efcdef9757a1b1f8056fa939d736c0f737101d372dce9fb2e2050542d496fe", func := "drumlin/drumlinlaw29.OutputCloses", spec := "outputCloses", inPlace := ["internal/abi.NoEscape", "internal/bytealg.MakeNoZero", "internal/bytealg.IndexByteString", "internal/bytealg.IndexString", "slices.overlaps[drumlin/api.Entry]", "slices.overlaps[drumlin/ordmap.item[string, drumlin/index.list]]"], unfollowed := true, recurses := true, named := ["math/bits.deBruijn64tab", "drumlin/slots.sealing", "internal/bytealg.MaxLen"], apart := false, laid := [("math/bits.deBruijn64tab", laid_math_bits_deBruijn64tab), ("drumlin/slots.sealing", laid_drumlin_slots_sealing)] }
def OutputClosesSaid : Prop := outputClosesRow.holds Tryz.pinned (OpenSpec.ofChange outputClosesSpec)

/-- ITS FALSE NEIGHBOUR: 'it returns false'. Refute it at one input. -/
def outputClosesWrong : ChangeSpec := { name := "outputCloses", fn := fun _ => fun
  | [d1, d2, d3] => { results := [.lit (.bool false)], args := [d1, d2, d3] }
  | _ => none }
def OutputClosesWrongFalsely : Prop := outputClosesRow.holds Tryz.pinned (OpenSpec.ofChange outputClosesWrong)

/-- 'drumlinlaw33.WriterPrefix': WHATEVER THE INPUT: true; the input reads as it did. -/
def writerPrefixSpec : ChangeSpec := { name := "writerPrefix", fn := fun _ => fun
  | [d1, d2, d3] => { results := [.lit (.bool true)], args := [d1, d2, d3] }
  | _ => none }
def writerPrefixRow : OpenClaim := { program := "ytehdneclbfldaaagreatdoor", sum := "86efcdef9757a1b1f8056fa939d736c0f737101d372dce9fb2e2050542d496fe", func := "drumlin/drumlinlaw33.WriterPrefix", spec := "writerPrefix", inPlace := ["internal/abi.NoEscape", "internal/bytealg.MakeNoZero", "internal/bytealg.IndexByteString", "internal/bytealg.IndexString", "slices.overlaps[drumlin/api.Entry]", "slices.overlaps[drumlin/ordmap.item[string, drumlin/index.list]]"], unfollowed := true, recurses := true, named := ["math/bits.deBruijn64tab", "drumlin/slots.sealing", "internal/bytealg.MaxLen"], apart := false, laid := [("math/bits.deBruijn64tab", laid_math_bits_deBruijn64tab), ("drumlin/slots.sealing", laid_drumlin_slots_sealing)] }
def WriterPrefixSaid : Prop := writerPrefixRow.holds Tryz.pinned (OpenSpec.ofChange writerPrefixSpec)

/-- ITS FALSE NEIGHBOUR: 'it returns false'. Refute it at one input. -/
def writerPrefixWrong : ChangeSpec := { name := "writerPrefix", fn := fun _ => fun
  | [d1, d2, d3] => { results := [.lit (.bool false)], args := [d1, d2, d3] }
  | _ => none }
def WriterPrefixWrongFalsely : Prop := writerPrefixRow.holds Tryz.pinned (OpenSpec.ofChange writerPrefixWrong)

/-- 'drumlinlaw33.WriterAppends': WHATEVER THE INPUT: true; the input reads as it did. -/
def writerAppendsSpec : ChangeSpec := { name := "writerAppends", fn := fun _ => fun
  | [d1, d2] => { results := [.lit (.bool true)], args := [d1, d2] }
  | _ => none }
def writerAppendsRow : OpenClaim := { program := "ytehdneclbfldaaagreatdoor", sum := "86efcdef9757a1b1f8056fa939d736c0f737101d372dce9fb2e2050542d496fe", func := "drumlin/drumlinlaw33.WriterAppends", spec := "writerAppends", inPlace := ["internal/abi.NoEscape", "internal/bytealg.MakeNoZero", "internal/bytealg.IndexByteString", "internal/bytealg.IndexString", "slices.overlaps[drumlin/api.Entry]", "slices.overlaps[drumlin/ordmap.item[string, drumlin/index.list]]"], unfollowed := true, recurses := true, named := ["math/bits.deBruijn64tab", "drumlin/slots.sealing", "internal/bytealg.MaxLen"], apart := false, laid := [("math/bits.deBruijn64tab", laid_math_bits_deBruijn64tab), ("drumlin/slots.sealing", laid_drumlin_slots_sealing)] }
def WriterAppendsSaid : Prop := writerAppendsRow.holds Tryz.pinned (OpenSpec.ofChange writerAppendsSpec)

/-- ITS FALSE NEIGHBOUR: 'it returns false'. Refute it at one input. -/
def writerAppendsWrong : ChangeSpec := { name := "writerAppends", fn := fun _ => fun
  | [d1, d2] => { results := [.lit (.bool false)], args := [d1, d2] }
  | _ => none }
def WriterAppendsWrongFalsely : Prop := writerAppendsRow.holds Tryz.pinned (OpenSpec.ofChange writerAppendsWrong)

/- THE SECOND FORM. 'bulk': how many values and letters a reading holds, each counted each time it is reached (what is shared counts as often as it is met; a slice's spare places count too). A statement '..UptoSaid' is the law's where the arguments, and the package variables that the reading takes, are together of bulk at most 1048576: NARROWER than '..Said'. Prove '..Said' where nothing that the law and all that it calls make is longer than what came in: it says more and counts as full. Else prove '..UptoSaid'. A law counts once. -/
mutual
def uptoBulk {H : Type} : DataW H → Nat
  | .lit (.string bytes) => bytes.length + 1
  | .lit _ => 1
  | .nil => 1
  | .ptr d => uptoBulk d + 1
  | .slice elems spare => uptoBulkAll elems + uptoBulkAll spare + 1
  | .agg parts => uptoBulkAll parts + 1
  | .iface _ d => uptoBulk d + 1
  | .map entries => uptoBulkEntries entries + 1
  | .held _ => 1
def uptoBulkAll {H : Type} : List (DataW H) → Nat
  | [] => 0
  | d :: r => uptoBulk d + uptoBulkAll r
def uptoBulkEntries {H : Type} : List (Lit × DataW H) → Nat
  | [] => 0
  | x :: r => uptoBulkEntry x + uptoBulkEntries r
def uptoBulkEntry {H : Type} : Lit × DataW H → Nat
  | (.string bytes, d) => bytes.length + uptoBulk d + 1
  | (_, d) => uptoBulk d + 1
 end
def uptoSmall : (H : Type) → List (DataW H) → Bool := fun _ ds => decide (uptoBulkAll ds ≤ 1048576)
def OpenSpec.upto (s : _root_.Go.ChangeSpec) : _root_.Go.OpenSpec := { _root_.Go.OpenSpec.ofChange s with cond := some uptoSmall }

/-- 'drumlinlaw33.WriterNil', WHERE WHAT IT READS IS OF BULK AT MOST 1048576: true; the input reads as it did. -/
def writerNilUptoRow : OpenClaim := { program := "ytehdneclbfldaaagreatdoor", sum := "86efcdef9757a1b1f8056fa939d736c0f737101d372dce9fb2e2050542d496fe", func := "drumlin/drumlinlaw33.WriterNil", spec := "writerNil", inPlace := ["internal/bytealg.IndexByteString", "internal/bytealg.IndexString", "slices.overlaps[drumlin/api.Entry]", "slices.overlaps[drumlin/ordmap.item[string, drumlin/index.list]]"], unfollowed := true, recurses := true, named := ["math/bits.deBruijn64tab", "drumlin/slots.sealing", "internal/bytealg.MaxLen"], apart := false, laid := [("math/bits.deBruijn64tab", laid_math_bits_deBruijn64tab), ("drumlin/slots.sealing", laid_drumlin_slots_sealing)], narrowed := true }
def WriterNilUptoSaid : Prop := writerNilUptoRow.holds Tryz.pinned (OpenSpec.upto writerNilSpec)

/-- 'drumlinlaw35.RecoveryNil', WHERE WHAT IT READS IS OF BULK AT MOST 1048576: true; the input reads as it did. -/
def recoveryNilUptoRow : OpenClaim := { program := "ytehdneclbfldaaagreatdoor", sum := "86efcdef9757a1b1f8056fa939d736c0f737101d372dce9fb2e2050542d496fe", func := "drumlin/drumlinlaw35.RecoveryNil", spec := "recoveryNil", inPlace := ["internal/bytealg.IndexByteString", "internal/bytealg.IndexString", "slices.overlaps[drumlin/api.Entry]", "slices.overlaps[drumlin/ordmap.item[string, drumlin/index.list]]"], unfollowed := true, recurses := true, named := ["drumlin/slots.loading", "internal/bytealg.MaxLen"], apart := false, laid := [("drumlin/slots.loading", laid_drumlin_slots_loading)], narrowed := true }
def RecoveryNilUptoSaid : Prop := recoveryNilUptoRow.holds Tryz.pinned (OpenSpec.upto recoveryNilSpec)

/-- 'drumlinlaw35.RecoverySyncs', WHERE WHAT IT READS IS OF BULK AT MOST 1048576: true; the input reads as it did. -/
def recoverySyncsUptoRow : OpenClaim := { program := "ytehdneclbfldaaagreatdoor", sum := "86efcdef9757a1b1f8056fa939d736c0f737101d372dce9fb2e2050542d496fe", func := "drumlin/drumlinlaw35.RecoverySyncs", spec := "recoverySyncs", inPlace := ["internal/bytealg.IndexByteString", "internal/bytealg.IndexString", "slices.overlaps[drumlin/api.Entry]", "slices.overlaps[drumlin/ordmap.item[string, drumlin/index.list]]"], unfollowed := true, recurses := true, named := ["drumlin/slots.loading", "internal/bytealg.MaxLen"], apart := false, laid := [("drumlin/slots.loading", laid_drumlin_slots_loading)], narrowed := true }
def RecoverySyncsUptoSaid : Prop := recoverySyncsUptoRow.holds Tryz.pinned (OpenSpec.upto recoverySyncsSpec)

/-- 'drumlinlaw35.RecoveryTears', WHERE WHAT IT READS IS OF BULK AT MOST 1048576: true; the input reads as it did. -/
def recoveryTearsUptoRow : OpenClaim := { program := "ytehdneclbfldaaagreatdoor", sum := "86efcdef9757a1b1f8056fa939d736c0f737101d372dce9fb2e2050542d496fe", func := "drumlin/drumlinlaw35.RecoveryTears", spec := "recoveryTears", inPlace := ["internal/bytealg.IndexByteString", "internal/bytealg.IndexString", "slices.overlaps[drumlin/api.Entry]", "slices.overlaps[drumlin/ordmap.item[string, drumlin/index.list]]"], unfollowed := true, recurses := true, named := ["drumlin/slots.loading", "internal/bytealg.MaxLen"], apart := false, laid := [("drumlin/slots.loading", laid_drumlin_slots_loading)], narrowed := true }
def RecoveryTearsUptoSaid : Prop := recoveryTearsUptoRow.holds Tryz.pinned (OpenSpec.upto recoveryTearsSpec)

/-- 'drumlinlaw35.RecoveryFinds', WHERE WHAT IT READS IS OF BULK AT MOST 1048576: true; the input reads as it did. -/
def recoveryFindsUptoRow : OpenClaim := { program := "ytehdneclbfldaaagreatdoor", sum := "86efcdef9757a1b1f8056fa939d736c0f737101d372dce9fb2e2050542d496fe", func := "drumlin/drumlinlaw35.RecoveryFinds", spec := "recoveryFinds", inPlace := ["internal/bytealg.IndexByteString", "internal/bytealg.IndexString", "slices.overlaps[drumlin/api.Entry]", "slices.overlaps[drumlin/ordmap.item[string, drumlin/index.list]]"], unfollowed := true, recurses := true, named := ["drumlin/slots.loading", "internal/bytealg.MaxLen"], apart := false, laid := [("drumlin/slots.loading", laid_drumlin_slots_loading)], narrowed := true }
def RecoveryFindsUptoSaid : Prop := recoveryFindsUptoRow.holds Tryz.pinned (OpenSpec.upto recoveryFindsSpec)

/-- 'drumlinlaw29.OutputFills', WHERE WHAT IT READS IS OF BULK AT MOST 1048576: true; the input reads as it did. -/
def outputFillsUptoRow : OpenClaim := { program := "ytehdneclbfldaaagreatdoor", sum := "86efcdef9757a1b1f8056fa939d736c0f737101d372dce9fb2e2050542d496fe", func := "drumlin/drumlinlaw29.OutputFills", spec := "outputFills", inPlace := ["internal/abi.NoEscape", "internal/bytealg.MakeNoZero", "internal/bytealg.IndexByteString", "internal/bytealg.IndexString", "slices.overlaps[drumlin/api.Entry]", "slices.overlaps[drumlin/ordmap.item[string, drumlin/index.list]]"], unfollowed := true, recurses := true, named := ["math/bits.deBruijn64tab", "drumlin/slots.sealing", "internal/bytealg.MaxLen"], apart := false, laid := [("math/bits.deBruijn64tab", laid_math_bits_deBruijn64tab), ("drumlin/slots.sealing", laid_drumlin_slots_sealing)], narrowed := true }
def OutputFillsUptoSaid : Prop := outputFillsUptoRow.holds Tryz.pinned (OpenSpec.upto outputFillsSpec)

/-- 'drumlinlaw29.OutputCopies', WHERE WHAT IT READS IS OF BULK AT MOST 1048576: true; the input reads as it did. -/
def outputCopiesUptoRow : OpenClaim := { program := "ytehdneclbfldaaagreatdoor", sum := "86efcdef9757a1b1f8056fa939d736c0f737101d372dce9fb2e2050542d496fe", func := "drumlin/drumlinlaw29.OutputCopies", spec := "outputCopies", inPlace := ["internal/abi.NoEscape", "internal/bytealg.MakeNoZero", "internal/bytealg.IndexByteString", "internal/bytealg.IndexString", "slices.overlaps[drumlin/api.Entry]", "slices.overlaps[drumlin/ordmap.item[string, drumlin/index.list]]"], unfollowed := true, recurses := true, named := ["math/bits.deBruijn64tab", "drumlin/slots.sealing", "internal/bytealg.MaxLen"], apart := false, laid := [("math/bits.deBruijn64tab", laid_math_bits_deBruijn64tab), ("drumlin/slots.sealing", laid_drumlin_slots_sealing)], narrowed := true }
def OutputCopiesUptoSaid : Prop := outputCopiesUptoRow.holds Tryz.pinned (OpenSpec.upto outputCopiesSpec)

/-- 'drumlinlaw35.RecoveryPlays', WHERE WHAT IT READS IS OF BULK AT MOST 1048576: true; the input reads as it did. -/
def recoveryPlaysUptoRow : OpenClaim := { program := "ytehdneclbfldaaagreatdoor", sum := "86efcdef9757a1b1f8056fa939d736c0f737101d372dce9fb2e2050542d496fe", func := "drumlin/drumlinlaw35.RecoveryPlays", spec := "recoveryPlays", inPlace := ["internal/bytealg.IndexByteString", "internal/bytealg.IndexString", "slices.overlaps[drumlin/api.Entry]", "slices.overlaps[drumlin/ordmap.item[string, drumlin/index.list]]"], unfollowed := true, recurses := true, named := ["drumlin/slots.loading", "internal/bytealg.MaxLen"], apart := false, laid := [("drumlin/slots.loading", laid_drumlin_slots_loading)], narrowed := true }
def RecoveryPlaysUptoSaid : Prop := recoveryPlaysUptoRow.holds Tryz.pinned (OpenSpec.upto recoveryPlaysSpec)

/-- 'drumlinlaw33.WriterBusy', WHERE WHAT IT READS IS OF BULK AT MOST 1048576: true; the input reads as it did. -/
def writerBusyUptoRow : OpenClaim := { program := "ytehdneclbfldaaagreatdoor", sum := "86efcdef9757a1b1f8056fa939d736c0f737101d372dce9fb2e2050542d496fe", func := "drumlin/drumlinlaw33.WriterBusy", spec := "writerBusy", inPlace := ["internal/abi.NoEscape", "internal/bytealg.MakeNoZero", "internal/bytealg.IndexByteString", "internal/bytealg.IndexString", "slices.overlaps[drumlin/api.Entry]", "slices.overlaps[drumlin/ordmap.item[string, drumlin/index.list]]"], unfollowed := true, recurses := true, named := ["math/bits.deBruijn64tab", "drumlin/slots.sealing", "internal/bytealg.MaxLen"], apart := false, laid := [("math/bits.deBruijn64tab", laid_math_bits_deBruijn64tab), ("drumlin/slots.sealing", laid_drumlin_slots_sealing)], narrowed := true }
def WriterBusyUptoSaid : Prop := writerBusyUptoRow.holds Tryz.pinned (OpenSpec.upto writerBusySpec)

/-- 'drumlinlaw29.OutputPlays', WHERE WHAT IT READS IS OF BULK AT MOST 1048576: true; the input reads as it did. -/
def outputPlaysUptoRow : OpenClaim := { program := "ytehdneclbfldaaagreatdoor", sum := "86efcdef9757a1b1f8056fa939d736c0f737101d372dce9fb2e2050542d496fe", func := "drumlin/drumlinlaw29.OutputPlays", spec := "outputPlays", inPlace := ["internal/abi.NoEscape", "internal/bytealg.MakeNoZero", "internal/bytealg.IndexByteString", "internal/bytealg.IndexString", "slices.overlaps[drumlin/api.Entry]", "slices.overlaps[drumlin/ordmap.item[string, drumlin/index.list]]"], unfollowed := true, recurses := true, named := ["math/bits.deBruijn64tab", "drumlin/slots.sealing", "internal/bytealg.MaxLen"], apart := false, laid := [("math/bits.deBruijn64tab", laid_math_bits_deBruijn64tab), ("drumlin/slots.sealing", laid_drumlin_slots_sealing)], narrowed := true }
def OutputPlaysUptoSaid : Prop := outputPlaysUptoRow.holds Tryz.pinned (OpenSpec.upto outputPlaysSpec)

/-- 'drumlinlaw35.RecoveryRefuses', WHERE WHAT IT READS IS OF BULK AT MOST 1048576: true; the input reads as it did. -/
def recoveryRefusesUptoRow : OpenClaim := { program := "ytehdneclbfldaaagreatdoor", sum := "86efcdef9757a1b1f8056fa939d736c0f737101d372dce9fb2e2050542d496fe", func := "drumlin/drumlinlaw35.RecoveryRefuses", spec := "recoveryRefuses", inPlace := ["internal/bytealg.IndexByteString", "internal/bytealg.IndexString", "slices.overlaps[drumlin/api.Entry]", "slices.overlaps[drumlin/ordmap.item[string, drumlin/index.list]]"], unfollowed := true, recurses := true, named := ["drumlin/slots.loading", "internal/bytealg.MaxLen"], apart := false, laid := [("drumlin/slots.loading", laid_drumlin_slots_loading)], narrowed := true }
def RecoveryRefusesUptoSaid : Prop := recoveryRefusesUptoRow.holds Tryz.pinned (OpenSpec.upto recoveryRefusesSpec)

/-- 'drumlinlaw29.OutputRefuses', WHERE WHAT IT READS IS OF BULK AT MOST 1048576: true; the input reads as it did. -/
def outputRefusesUptoRow : OpenClaim := { program := "ytehdneclbfldaaagreatdoor", sum := "86efcdef9757a1b1f8056fa939d736c0f737101d372dce9fb2e2050542d496fe", func := "drumlin/drumlinlaw29.OutputRefuses", spec := "outputRefuses", inPlace := ["internal/abi.NoEscape", "internal/bytealg.MakeNoZero", "internal/bytealg.IndexByteString", "internal/bytealg.IndexString", "slices.overlaps[drumlin/api.Entry]", "slices.overlaps[drumlin/ordmap.item[string, drumlin/index.list]]"], unfollowed := true, recurses := true, named := ["math/bits.deBruijn64tab", "drumlin/slots.sealing", "internal/bytealg.MaxLen"], apart := false, laid := [("math/bits.deBruijn64tab", laid_math_bits_deBruijn64tab), ("drumlin/slots.sealing", laid_drumlin_slots_sealing)], narrowed := true }
def OutputRefusesUptoSaid : Prop := outputRefusesUptoRow.holds Tryz.pinned (OpenSpec.upto outputRefusesSpec)

/-- 'drumlinlaw33.WriterSyncs', WHERE WHAT IT READS IS OF BULK AT MOST 1048576: true; the input reads as it did. -/
def writerSyncsUptoRow : OpenClaim := { program := "ytehdneclbfldaaagreatdoor", sum := "86efcdef9757a1b1f8056fa939d736c0f737101d372dce9fb2e2050542d496fe", func := "drumlin/drumlinlaw33.WriterSyncs", spec := "writerSyncs", inPlace := ["internal/abi.NoEscape", "internal/bytealg.MakeNoZero", "internal/bytealg.IndexByteString", "internal/bytealg.IndexString", "slices.overlaps[drumlin/api.Entry]", "slices.overlaps[drumlin/ordmap.item[string, drumlin/index.list]]"], unfollowed := true, recurses := true, named := ["math/bits.deBruijn64tab", "drumlin/slots.sealing", "internal/bytealg.MaxLen"], apart := false, laid := [("math/bits.deBruijn64tab", laid_math_bits_deBruijn64tab), ("drumlin/slots.sealing", laid_drumlin_slots_sealing)], narrowed := true }
def WriterSyncsUptoSaid : Prop := writerSyncsUptoRow.holds Tryz.pinned (OpenSpec.upto writerSyncsSpec)

/-- 'drumlinlaw33.WriterRefuses', WHERE WHAT IT READS IS OF BULK AT MOST 1048576: true; the input reads as it did. -/
def writerRefusesUptoRow : OpenClaim := { program := "ytehdneclbfldaaagreatdoor", sum := "86efcdef9757a1b1f8056fa939d736c0f737101d372dce9fb2e2050542d496fe", func := "drumlin/drumlinlaw33.WriterRefuses", spec := "writerRefuses", inPlace := ["internal/abi.NoEscape", "internal/bytealg.MakeNoZero", "internal/bytealg.IndexByteString", "internal/bytealg.IndexString", "slices.overlaps[drumlin/api.Entry]", "slices.overlaps[drumlin/ordmap.item[string, drumlin/index.list]]"], unfollowed := true, recurses := true, named := ["math/bits.deBruijn64tab", "drumlin/slots.sealing", "internal/bytealg.MaxLen"], apart := false, laid := [("math/bits.deBruijn64tab", laid_math_bits_deBruijn64tab), ("drumlin/slots.sealing", laid_drumlin_slots_sealing)], narrowed := true }
def WriterRefusesUptoSaid : Prop := writerRefusesUptoRow.holds Tryz.pinned (OpenSpec.upto writerRefusesSpec)

/-- 'drumlinlaw33.WriterPlays', WHERE WHAT IT READS IS OF BULK AT MOST 1048576: true; the input reads as it did. -/
def writerPlaysUptoRow : OpenClaim := { program := "ytehdneclbfldaaagreatdoor", sum := "86efcdef9757a1b1f8056fa939d736c0f737101d372dce9fb2e2050542d496fe", func := "drumlin/drumlinlaw33.WriterPlays", spec := "writerPlays", inPlace := ["internal/abi.NoEscape", "internal/bytealg.MakeNoZero", "internal/bytealg.IndexByteString", "internal/bytealg.IndexString", "slices.overlaps[drumlin/api.Entry]", "slices.overlaps[drumlin/ordmap.item[string, drumlin/index.list]]"], unfollowed := true, recurses := true, named := ["math/bits.deBruijn64tab", "drumlin/slots.sealing", "internal/bytealg.MaxLen"], apart := false, laid := [("math/bits.deBruijn64tab", laid_math_bits_deBruijn64tab), ("drumlin/slots.sealing", laid_drumlin_slots_sealing)], narrowed := true }
def WriterPlaysUptoSaid : Prop := writerPlaysUptoRow.holds Tryz.pinned (OpenSpec.upto writerPlaysSpec)

/-- 'drumlinlaw29.OutputCrashes', WHERE WHAT IT READS IS OF BULK AT MOST 1048576: true; the input reads as it did. -/
def outputCrashesUptoRow : OpenClaim := { program := "ytehdneclbfldaaagreatdoor", sum := "86efcdef9757a1b1f8056fa939d736c0f737101d372dce9fb2e2050542d496fe", func := "drumlin/drumlinlaw29.OutputCrashes", spec := "outputCrashes", inPlace := ["internal/abi.NoEscape", "internal/bytealg.MakeNoZero", "internal/bytealg.IndexByteString", "internal/bytealg.IndexString", "slices.overlaps[drumlin/api.Entry]", "slices.overlaps[drumlin/ordmap.item[string, drumlin/index.list]]"], unfollowed := true, recurses := true, named := ["math/bits.deBruijn64tab", "drumlin/slots.sealing", "internal/bytealg.MaxLen"], apart := false, laid := [("math/bits.deBruijn64tab", laid_math_bits_deBruijn64tab), ("drumlin/slots.sealing", laid_drumlin_slots_sealing)], narrowed := true }
def OutputCrashesUptoSaid : Prop := outputCrashesUptoRow.holds Tryz.pinned (OpenSpec.upto outputCrashesSpec)

/-- 'drumlinlaw29.OutputCloses', WHERE WHAT IT READS IS OF BULK AT MOST 1048576: true; the input reads as it did. -/
def outputClosesUptoRow : OpenClaim := { program := "ytehdneclbfldaaagreatdoor", sum := "86efcdef9757a1b1f8056fa939d736c0f737101d372dce9fb2e2050542d496fe", func := "drumlin/drumlinlaw29.OutputCloses", spec := "outputCloses", inPlace := ["internal/abi.NoEscape", "internal/bytealg.MakeNoZero", "internal/bytealg.IndexByteString", "internal/bytealg.IndexString", "slices.overlaps[drumlin/api.Entry]", "slices.overlaps[drumlin/ordmap.item[string, drumlin/index.list]]"], unfollowed := true, recurses := true, named := ["math/bits.deBruijn64tab", "drumlin/slots.sealing", "internal/bytealg.MaxLen"], apart := false, laid := [("math/bits.deBruijn64tab", laid_math_bits_deBruijn64tab), ("drumlin/slots.sealing", laid_drumlin_slots_sealing)], narrowed := true }
def OutputClosesUptoSaid : Prop := outputClosesUptoRow.holds Tryz.pinned (OpenSpec.upto outputClosesSpec)

/-- 'drumlinlaw33.WriterPrefix', WHERE WHAT IT READS IS OF BULK AT MOST 1048576: true; the input reads as it did. -/
def writerPrefixUptoRow : OpenClaim := { program := "ytehdneclbfldaaagreatdoor", sum := "86efcdef9757a1b1f8056fa939d736c0f737101d372dce9fb2e2050542d496fe", func := "drumlin/drumlinlaw33.WriterPrefix", spec := "writerPrefix", inPlace := ["internal/abi.NoEscape", "internal/bytealg.MakeNoZero", "internal/bytealg.IndexByteString", "internal/bytealg.IndexString", "slices.overlaps[drumlin/api.Entry]", "slices.overlaps[drumlin/ordmap.item[string, drumlin/index.list]]"], unfollowed := true, recurses := true, named := ["math/bits.deBruijn64tab", "drumlin/slots.sealing", "internal/bytealg.MaxLen"], apart := false, laid := [("math/bits.deBruijn64tab", laid_math_bits_deBruijn64tab), ("drumlin/slots.sealing", laid_drumlin_slots_sealing)], narrowed := true }
def WriterPrefixUptoSaid : Prop := writerPrefixUptoRow.holds Tryz.pinned (OpenSpec.upto writerPrefixSpec)

/-- 'drumlinlaw33.WriterAppends', WHERE WHAT IT READS IS OF BULK AT MOST 1048576: true; the input reads as it did. -/
def writerAppendsUptoRow : OpenClaim := { program := "ytehdneclbfldaaagreatdoor", sum := "86efcdef9757a1b1f8056fa939d736c0f737101d372dce9fb2e2050542d496fe", func := "drumlin/drumlinlaw33.WriterAppends", spec := "writerAppends", inPlace := ["internal/abi.NoEscape", "internal/bytealg.MakeNoZero", "internal/bytealg.IndexByteString", "internal/bytealg.IndexString", "slices.overlaps[drumlin/api.Entry]", "slices.overlaps[drumlin/ordmap.item[string, drumlin/index.list]]"], unfollowed := true, recurses := true, named := ["math/bits.deBruijn64tab", "drumlin/slots.sealing", "internal/bytealg.MaxLen"], apart := false, laid := [("math/bits.deBruijn64tab", laid_math_bits_deBruijn64tab), ("drumlin/slots.sealing", laid_drumlin_slots_sealing)], narrowed := true }
def WriterAppendsUptoSaid : Prop := writerAppendsUptoRow.holds Tryz.pinned (OpenSpec.upto writerAppendsSpec)

end Rows
end Go.Proofs.YtehdneclbfldaaaGreatDoor
