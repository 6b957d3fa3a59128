/-
  DERIVED. GIVEN WITH THE SEED: THE CARDS: each row of YtfeammikiohoeaaGreatDoorRows.lean that lists a variable, with what it lists TIED to the program's text (the seventh form; the later family's looks); each row that meets fmt, with fmt's text TOLD by the authors' own Lean function (tested against real Go, not proved from fmt's source: count such statements apart). THE CARD IS WHAT COUNTS. Prove the row's statement (the work); the ties are given (YtfeammikiohoeaaGreatDoorTie.lean); close each card by the builder's one call (the guide's Derived/Test/ToyasCard.lean, 'card_holds'). Laid BY PROGRAM, IN A SANDBOX (cutbox-door.mjs). By AI agents, Wed Nov 11 2026. No macro, syntax, notation, axiom, sorry.
-/
import Derived.Test.YtfeammikiohoeaaGreatDoorRows
import GoSem.ClaimSeven
namespace Go.Proofs.YtfeammikiohoeaaGreatDoor
namespace Rows

/-- THE TIED CARD OF 'drumlinlaw40.MachineKnown'. -/
def machineKnownCard : Claim7 := { stood := { row := machineKnownRow, standIns := [], harness := (true, "0fea3c40a9fdf886b2529d9fdfe6142b3bccee424f080018c33b9f6d68fc5ab6"), looks := true }, kinds := [], alts := [], laidByText := true, laidKinds := [.data, .data, .data, .data, .data, .data, .data, .data, .sentinel, .sentinel, .pinned], laidTests := true, laidLooks := .later }
def MachineKnownCardSaid : Prop := Claim7.holds Tryz.pinned (.plain (OpenSpec.ofChange machineKnownSpec)) machineKnownCard

/-- THE TIED CARD OF 'drumlinlaw40.MachineNil'. -/
def machineNilCard : Claim7 := { stood := { row := machineNilRow, standIns := [], harness := (true, "0fea3c40a9fdf886b2529d9fdfe6142b3bccee424f080018c33b9f6d68fc5ab6"), looks := true }, kinds := [], alts := [], laidByText := true, laidKinds := [.data, .data, .data, .data, .data, .data, .data, .data, .sentinel, .sentinel, .pinned], laidTests := true, laidLooks := .later }
def MachineNilCardSaid : Prop := Claim7.holds Tryz.pinned (.plain (OpenSpec.ofChange machineNilSpec)) machineNilCard

/-- THE SECOND FORM's CARD OF 'drumlinlaw40.MachineKnown'. -/
def machineKnownUptoCard : Claim7 := { stood := { row := machineKnownUptoRow, standIns := [], harness := (true, "0fea3c40a9fdf886b2529d9fdfe6142b3bccee424f080018c33b9f6d68fc5ab6"), looks := true }, kinds := [], alts := [], laidByText := true, laidKinds := [.data, .data, .data, .data, .data, .data, .data, .data, .sentinel, .sentinel, .pinned], laidTests := true, laidLooks := .later }
def MachineKnownUptoCardSaid : Prop := Claim7.holds Tryz.pinned (.plain (OpenSpec.upto machineKnownSpec)) machineKnownUptoCard

/-- THE SECOND FORM's CARD OF 'drumlinlaw40.MachineNil'. -/
def machineNilUptoCard : Claim7 := { stood := { row := machineNilUptoRow, standIns := [], harness := (true, "0fea3c40a9fdf886b2529d9fdfe6142b3bccee424f080018c33b9f6d68fc5ab6"), looks := true }, kinds := [], alts := [], laidByText := true, laidKinds := [.data, .data, .data, .data, .data, .data, .data, .data, .sentinel, .sentinel, .pinned], laidTests := true, laidLooks := .later }
def MachineNilUptoCardSaid : Prop := Claim7.holds Tryz.pinned (.plain (OpenSpec.upto machineNilSpec)) machineNilUptoCard
end Rows
end Go.Proofs.YtfeammikiohoeaaGreatDoor
