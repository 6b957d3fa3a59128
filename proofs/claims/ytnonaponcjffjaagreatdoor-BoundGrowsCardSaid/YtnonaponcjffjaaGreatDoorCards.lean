/-
  DERIVED. GIVEN WITH THE SEED: THE CARDS: each row of YtnonaponcjffjaaGreatDoorRows.lean that lists a variable, with what it lists TIED to the program's text (the seventh form; the later family's looks); each row that meets fmt, with fmt's text TOLD by the authors' own Lean function (tested against real Go, not proved from fmt's source: count such statements apart). THE CARD IS WHAT COUNTS. Prove the row's statement (the work); the ties are given (YtnonaponcjffjaaGreatDoorTie.lean); close each card by the builder's one call (the guide's Derived/Test/ToyasCard.lean, 'card_holds'). Laid BY PROGRAM, IN A SANDBOX (cutbox-door.mjs). By AI agents, Wed Nov 11 2026. No macro, syntax, notation, axiom, sorry.
-/
import Derived.Test.YtnonaponcjffjaaGreatDoorRows
import GoSem.ClaimSeven
namespace Go.Proofs.YtnonaponcjffjaaGreatDoor
namespace Rows

/-- THE TIED CARD OF 'drumlinlaw45.BoundNumbers'. -/
def boundNumbersCard : Claim7 := { stood := { row := boundNumbersRow, standIns := [], harness := (true, "229697035efa12f0d369599e85030ab7d04a40ad61eefb0e1c305321888e4bcf"), looks := true }, kinds := [], alts := [], laidByText := true, laidKinds := [.data, .data, .data, .data, .data, .data, .pinned, .data, .sentinel, .sentinel, .data], laidTests := true, laidLooks := .later }
def BoundNumbersCardSaid : Prop := Claim7.holds Tryz.pinned (.plain (OpenSpec.ofChange boundNumbersSpec)) boundNumbersCard

/-- THE TIED CARD OF 'drumlinlaw45.BoundSegments'. -/
def boundSegmentsCard : Claim7 := { stood := { row := boundSegmentsRow, standIns := [], harness := (true, "229697035efa12f0d369599e85030ab7d04a40ad61eefb0e1c305321888e4bcf"), looks := true }, kinds := [], alts := [], laidByText := true, laidKinds := [.data, .data, .data, .data, .data, .data, .pinned, .data, .sentinel, .sentinel, .data], laidTests := true, laidLooks := .later }
def BoundSegmentsCardSaid : Prop := Claim7.holds Tryz.pinned (.plain (OpenSpec.ofChange boundSegmentsSpec)) boundSegmentsCard

/-- THE TIED CARD OF 'drumlinlaw45.BoundGrows'. -/
def boundGrowsCard : Claim7 := { stood := { row := boundGrowsRow, standIns := [], harness := (true, "229697035efa12f0d369599e85030ab7d04a40ad61eefb0e1c305321888e4bcf"), looks := true }, kinds := [], alts := [], laidByText := true, laidKinds := [.data, .data, .data, .data, .data, .data, .pinned, .data, .sentinel, .sentinel, .data], laidTests := true, laidLooks := .later }
def BoundGrowsCardSaid : Prop := Claim7.holds Tryz.pinned (.plain (OpenSpec.ofChange boundGrowsSpec)) boundGrowsCard

/-- THE SECOND FORM's CARD OF 'drumlinlaw45.BoundNumbers'. -/
def boundNumbersUptoCard : Claim7 := { stood := { row := boundNumbersUptoRow, standIns := [], harness := (true, "229697035efa12f0d369599e85030ab7d04a40ad61eefb0e1c305321888e4bcf"), looks := true }, kinds := [], alts := [], laidByText := true, laidKinds := [.data, .data, .data, .data, .data, .data, .pinned, .data, .sentinel, .sentinel, .data], laidTests := true, laidLooks := .later }
def BoundNumbersUptoCardSaid : Prop := Claim7.holds Tryz.pinned (.plain (OpenSpec.upto boundNumbersSpec)) boundNumbersUptoCard

/-- THE SECOND FORM's CARD OF 'drumlinlaw45.BoundSegments'. -/
def boundSegmentsUptoCard : Claim7 := { stood := { row := boundSegmentsUptoRow, standIns := [], harness := (true, "229697035efa12f0d369599e85030ab7d04a40ad61eefb0e1c305321888e4bcf"), looks := true }, kinds := [], alts := [], laidByText := true, laidKinds := [.data, .data, .data, .data, .data, .data, .pinned, .data, .sentinel, .sentinel, .data], laidTests := true, laidLooks := .later }
def BoundSegmentsUptoCardSaid : Prop := Claim7.holds Tryz.pinned (.plain (OpenSpec.upto boundSegmentsSpec)) boundSegmentsUptoCard

/-- THE SECOND FORM's CARD OF 'drumlinlaw45.BoundGrows'. -/
def boundGrowsUptoCard : Claim7 := { stood := { row := boundGrowsUptoRow, standIns := [], harness := (true, "229697035efa12f0d369599e85030ab7d04a40ad61eefb0e1c305321888e4bcf"), looks := true }, kinds := [], alts := [], laidByText := true, laidKinds := [.data, .data, .data, .data, .data, .data, .pinned, .data, .sentinel, .sentinel, .data], laidTests := true, laidLooks := .later }
def BoundGrowsUptoCardSaid : Prop := Claim7.holds Tryz.pinned (.plain (OpenSpec.upto boundGrowsSpec)) boundGrowsUptoCard
end Rows
end Go.Proofs.YtnonaponcjffjaaGreatDoor
