/-
  NARROWER THAN 'FOR EVERY INPUT', by the rows' own cells (each row's printed sentence says how): RecoverySyncs: laid · RecoveryTears: laid · RecoveryFinds: laid · RecoveryRefuses: laid.
  DERIVED. THE GIVEN ROWS OF THIS SEAT. 4 by the template 'for every input the law returns true; each argument reads behind the call as it read before'; 0 by the template 'total and deterministic' (their statements: YtkccgiifmlhhjaaGreatDoorTotals.lean).
  GIVEN WITH THE SEED: the statements are not yours to turn. If you find one false, say at which input.
  Laid BY PROGRAM, IN A SANDBOX (cutbox-rows.mjs): the forced cells as the released guide's own fill.sh prints them over the translation 84983c45fa500e90… (all of the seat's roots in one cut). By AI agents, Wed Nov 11 2026. No macro, syntax, notation, axiom, sorry.
-/
import Derived.Test.YtkccgiifmlhhjaaGreatDoorChecked
import GoSem.Claim
import GoSem.ClaimJoined
import GoSem.ClaimMapViews
import Derived.JoinedTies
import Derived.KernelRfl
namespace Go.Proofs.YtkccgiifmlhhjaaGreatDoor
/- THE CELL 'sum', in the pinned program and in every row, IS THE sha256 OF THE DUMP (.gsa) THAT YtkccgiifmlhhjaaGreatDoorProg.lean LOADS. Nothing in Lean hashes anything: it is a label: what it is worth is what the hold of that sum in a sandbox is worth. -/
noncomputable def Tryz.pinned : Pinned := { name := "ytkccgiifmlhhjaagreatdoor", sum := "84983c45fa500e908f3973c47a2ccd0a5932ad5c831d0b8c51b5976abf321108", checked := Tryz.checked }
namespace Rows
def none {H : Type} : Left H := { results := [], args := [] }

/- WHAT THE LISTED PACKAGE-LEVEL VARIABLES READ AS WHEN THE CALL BEGINS. Each datum BY PROGRAM (the guide's laid-datum.mjs) off the statement by which the dump's own 'gosem.cut.vars' lays the variable. In a bare row this is a premise. The card (YtkccgiifmlhhjaaGreatDoorCards.lean) ties it to the program's text. -/
def laid_drumlin_slots_loading {H : Type} : DataW H := .agg [.agg [.lit (.bool true), .lit (.bool false), .lit (.bool false), .lit (.bool false), .lit (.bool false)], .lit (.int .i64 2)]

/-- 'drumlinlaw35.RecoverySyncs': WHATEVER THE INPUT: true; the input reads as it did. -/
def recoverySyncsSpec : ChangeSpec := { name := "recoverySyncs", fn := fun _ => fun
  | [d1, d2, d3] => { results := [.lit (.bool true)], args := [d1, d2, d3] }
  | _ => none }
def recoverySyncsRow : OpenClaim := { program := "ytkccgiifmlhhjaagreatdoor", sum := "84983c45fa500e908f3973c47a2ccd0a5932ad5c831d0b8c51b5976abf321108", func := "drumlin/drumlinlaw35.RecoverySyncs", spec := "recoverySyncs", inPlace := ["internal/bytealg.IndexByteString", "internal/bytealg.IndexString", "slices.overlaps[drumlin/api.Entry]", "slices.overlaps[drumlin/ordmap.item[string, drumlin/index.list]]"], unfollowed := true, recurses := true, named := ["drumlin/slots.loading", "internal/bytealg.MaxLen"], apart := false, laid := [("drumlin/slots.loading", laid_drumlin_slots_loading)] }
def RecoverySyncsSaid : Prop := recoverySyncsRow.holds Tryz.pinned (OpenSpec.ofChange recoverySyncsSpec)

/-- ITS FALSE NEIGHBOUR: 'it returns false'. Refute it at one input. -/
def recoverySyncsWrong : ChangeSpec := { name := "recoverySyncs", fn := fun _ => fun
  | [d1, d2, d3] => { results := [.lit (.bool false)], args := [d1, d2, d3] }
  | _ => none }
def RecoverySyncsWrongFalsely : Prop := recoverySyncsRow.holds Tryz.pinned (OpenSpec.ofChange recoverySyncsWrong)

/-- 'drumlinlaw35.RecoveryTears': WHATEVER THE INPUT: true; the input reads as it did. -/
def recoveryTearsSpec : ChangeSpec := { name := "recoveryTears", fn := fun _ => fun
  | [d1, d2, d3, d4] => { results := [.lit (.bool true)], args := [d1, d2, d3, d4] }
  | _ => none }
def recoveryTearsRow : OpenClaim := { program := "ytkccgiifmlhhjaagreatdoor", sum := "84983c45fa500e908f3973c47a2ccd0a5932ad5c831d0b8c51b5976abf321108", func := "drumlin/drumlinlaw35.RecoveryTears", spec := "recoveryTears", inPlace := ["internal/bytealg.IndexByteString", "internal/bytealg.IndexString", "slices.overlaps[drumlin/api.Entry]", "slices.overlaps[drumlin/ordmap.item[string, drumlin/index.list]]"], unfollowed := true, recurses := true, named := ["drumlin/slots.loading", "internal/bytealg.MaxLen"], apart := false, laid := [("drumlin/slots.loading", laid_drumlin_slots_loading)] }
def RecoveryTearsSaid : Prop := recoveryTearsRow.holds Tryz.pinned (OpenSpec.ofChange recoveryTearsSpec)

/-- ITS FALSE NEIGHBOUR: 'it returns false'. Refute it at one input. -/
def recoveryTearsWrong : ChangeSpec := { name := "recoveryTears", fn := fun _ => fun
  | [d1, d2, d3, d4] => { results := [.lit (.bool false)], args := [d1, d2, d3, d4] }
  | _ => none }
def RecoveryTearsWrongFalsely : Prop := recoveryTearsRow.holds Tryz.pinned (OpenSpec.ofChange recoveryTearsWrong)

/-- 'drumlinlaw35.RecoveryFinds': WHATEVER THE INPUT: true; the input reads as it did. -/
def recoveryFindsSpec : ChangeSpec := { name := "recoveryFinds", fn := fun _ => fun
  | [d1, d2, d3] => { results := [.lit (.bool true)], args := [d1, d2, d3] }
  | _ => none }
def recoveryFindsRow : OpenClaim := { program := "ytkccgiifmlhhjaagreatdoor", sum := "84983c45fa500e908f3973c47a2ccd0a5932ad5c831d0b8c51b5976abf321108", func := "drumlin/drumlinlaw35.RecoveryFinds", spec := "recoveryFinds", inPlace := ["internal/bytealg.IndexByteString", "internal/bytealg.IndexString", "slices.overlaps[drumlin/api.Entry]", "slices.overlaps[drumlin/ordmap.item[string, drumlin/index.list]]"], unfollowed := true, recurses := true, named := ["drumlin/slots.loading", "internal/bytealg.MaxLen"], apart := false, laid := [("drumlin/slots.loading", laid_drumlin_slots_loading)] }
def RecoveryFindsSaid : Prop := recoveryFindsRow.holds Tryz.pinned (OpenSpec.ofChange recoveryFindsSpec)

/-- ITS FALSE NEIGHBOUR: 'it returns false'. Refute it at one input. -/
def recoveryFindsWrong : ChangeSpec := { name := "recoveryFinds", fn := fun _ => fun
  | [d1, d2, d3] => { results := [.lit (.bool false)], args := [d1, d2, d3] }
  | _ => none }
def RecoveryFindsWrongFalsely : Prop := recoveryFindsRow.holds Tryz.pinned (OpenSpec.ofChange recoveryFindsWrong)

/-- 'drumlinlaw35.RecoveryRefuses': WHATEVER THE INPUT: true; the input reads as it did. -/
def recoveryRefusesSpec : ChangeSpec := { name := "recoveryRefuses", fn := fun _ => fun
  | [d1, d2, d3] => { results := [.lit (.bool true)], args := [d1, d2, d3] }
  | _ => none }
def recoveryRefusesRow : OpenClaim := { program := "ytkccgiifmlhhjaagreatdoor", sum := "84983c45fa500e908f3973c47a2ccd0a5932ad5c831d0b8c51b5976abf321108", func := "drumlin/drumlinlaw35.RecoveryRefuses", spec := "recoveryRefuses", inPlace := ["internal/bytealg.IndexByteString", "internal/bytealg.IndexString", "slices.overlaps[drumlin/api.Entry]", "slices.overlaps[drumlin/ordmap.item[string, drumlin/index.list]]"], unfollowed := true, recurses := true, named := ["drumlin/slots.loading", "internal/bytealg.MaxLen"], apart := false, laid := [("drumlin/slots.loading", laid_drumlin_slots_loading)] }
def RecoveryRefusesSaid : Prop := recoveryRefusesRow.holds Tryz.pinned (OpenSpec.ofChange recoveryRefusesSpec)

/-- ITS FALSE NEIGHBOUR: 'it returns false'. Refute it at one input. -/
def recoveryRefusesWrong : ChangeSpec := { name := "recoveryRefuses", fn := fun _ => fun
  | [d1, d2, d3] => { results := [.lit (.bool false)], args := [d1, d2, d3] }
  | _ => none }
def RecoveryRefusesWrongFalsely : Prop := recoveryRefusesRow.holds Tryz.pinned (OpenSpec.ofChange recoveryRefusesWrong)

/- THE SECOND FORM. 'bulk': how many values and letters a reading holds, each counted each time it is reached (what is shared counts as often as it is met; a slice's spare places count too). A statement '..UptoSaid' is the law's where the arguments, and the package variables that the reading takes, are together of bulk at most 1048576: NARROWER than '..Said'. Prove '..Said' where nothing that the law and all that it calls make is longer than what came in: it says more and counts as full. Else prove '..UptoSaid'. A law counts once. -/
mutual
def uptoBulk {H : Type} : DataW H → Nat
  | .lit (.string bytes) => bytes.length + 1
  | .lit _ => 1
  | .nil => 1
  | .ptr d => uptoBulk d + 1
  | .slice elems spare => uptoBulkAll elems + uptoBulkAll spare + 1
  | .agg parts => uptoBulkAll parts + 1
  | .iface _ d => uptoBulk d + 1
  | .map entries => uptoBulkEntries entries + 1
  | .held _ => 1
def uptoBulkAll {H : Type} : List (DataW H) → Nat
  | [] => 0
  | d :: r => uptoBulk d + uptoBulkAll r
def uptoBulkEntries {H : Type} : List (Lit × DataW H) → Nat
  | [] => 0
  | x :: r => uptoBulkEntry x + uptoBulkEntries r
def uptoBulkEntry {H : Type} : Lit × DataW H → Nat
  | (.string bytes, d) => bytes.length + uptoBulk d + 1
  | (_, d) => uptoBulk d + 1
 end
def uptoSmall : (H : Type) → List (DataW H) → Bool := fun _ ds => decide (uptoBulkAll ds ≤ 1048576)
def OpenSpec.upto (s : _root_.Go.ChangeSpec) : _root_.Go.OpenSpec := { _root_.Go.OpenSpec.ofChange s with cond := some uptoSmall }

/-- 'drumlinlaw35.RecoverySyncs', WHERE WHAT IT READS IS OF BULK AT MOST 1048576: true; the input reads as it did. -/
def recoverySyncsUptoRow : OpenClaim := { program := "ytkccgiifmlhhjaagreatdoor", sum := "84983c45fa500e908f3973c47a2ccd0a5932ad5c831d0b8c51b5976abf321108", func := "drumlin/drumlinlaw35.RecoverySyncs", spec := "recoverySyncs", inPlace := ["internal/bytealg.IndexByteString", "internal/bytealg.IndexString", "slices.overlaps[drumlin/api.Entry]", "slices.overlaps[drumlin/ordmap.item[string, drumlin/index.list]]"], unfollowed := true, recurses := true, named := ["drumlin/slots.loading", "internal/bytealg.MaxLen"], apart := false, laid := [("drumlin/slots.loading", laid_drumlin_slots_loading)], narrowed := true }
def RecoverySyncsUptoSaid : Prop := recoverySyncsUptoRow.holds Tryz.pinned (OpenSpec.upto recoverySyncsSpec)

/-- 'drumlinlaw35.RecoveryTears', WHERE WHAT IT READS IS OF BULK AT MOST 1048576: true; the input reads as it did. -/
def recoveryTearsUptoRow : OpenClaim := { program := "ytkccgiifmlhhjaagreatdoor", sum := "84983c45fa500e908f3973c47a2ccd0a5932ad5c831d0b8c51b5976abf321108", func := "drumlin/drumlinlaw35.RecoveryTears", spec := "recoveryTears", inPlace := ["internal/bytealg.IndexByteString", "internal/bytealg.IndexString", "slices.overlaps[drumlin/api.Entry]", "slices.overlaps[drumlin/ordmap.item[string, drumlin/index.list]]"], unfollowed := true, recurses := true, named := ["drumlin/slots.loading", "internal/bytealg.MaxLen"], apart := false, laid := [("drumlin/slots.loading", laid_drumlin_slots_loading)], narrowed := true }
def RecoveryTearsUptoSaid : Prop := recoveryTearsUptoRow.holds Tryz.pinned (OpenSpec.upto recoveryTearsSpec)

/-- 'drumlinlaw35.RecoveryFinds', WHERE WHAT IT READS IS OF BULK AT MOST 1048576: true; the input reads as it did. -/
def recoveryFindsUptoRow : OpenClaim := { program := "ytkccgiifmlhhjaagreatdoor", sum := "84983c45fa500e908f3973c47a2ccd0a5932ad5c831d0b8c51b5976abf321108", func := "drumlin/drumlinlaw35.RecoveryFinds", spec := "recoveryFinds", inPlace := ["internal/bytealg.IndexByteString", "internal/bytealg.IndexString", "slices.overlaps[drumlin/api.Entry]", "slices.overlaps[drumlin/ordmap.item[string, drumlin/index.list]]"], unfollowed := true, recurses := true, named := ["drumlin/slots.loading", "internal/bytealg.MaxLen"], apart := false, laid := [("drumlin/slots.loading", laid_drumlin_slots_loading)], narrowed := true }
def RecoveryFindsUptoSaid : Prop := recoveryFindsUptoRow.holds Tryz.pinned (OpenSpec.upto recoveryFindsSpec)

/-- 'drumlinlaw35.RecoveryRefuses', WHERE WHAT IT READS IS OF BULK AT MOST 1048576: true; the input reads as it did. -/
def recoveryRefusesUptoRow : OpenClaim := { program := "ytkccgiifmlhhjaagreatdoor", sum := "84983c45fa500e908f3973c47a2ccd0a5932ad5c831d0b8c51b5976abf321108", func := "drumlin/drumlinlaw35.RecoveryRefuses", spec := "recoveryRefuses", inPlace := ["internal/bytealg.IndexByteString", "internal/bytealg.IndexString", "slices.overlaps[drumlin/api.Entry]", "slices.overlaps[drumlin/ordmap.item[string, drumlin/index.list]]"], unfollowed := true, recurses := true, named := ["drumlin/slots.loading", "internal/bytealg.MaxLen"], apart := false, laid := [("drumlin/slots.loading", laid_drumlin_slots_loading)], narrowed := true }
def RecoveryRefusesUptoSaid : Prop := recoveryRefusesUptoRow.holds Tryz.pinned (OpenSpec.upto recoveryRefusesSpec)

end Rows
end Go.Proofs.YtkccgiifmlhhjaaGreatDoor
