/-
  DERIVED. GIVEN WITH THE SEED: THE CARDS: each row of YtbojbpalkegahaaGreatDoorRows.lean that lists a variable, with what it lists TIED to the program's text (the seventh form; the later family's looks); each row that meets fmt, with fmt's text TOLD by the authors' own Lean function (tested against real Go, not proved from fmt's source: count such statements apart). THE CARD IS WHAT COUNTS. Prove the row's statement (the work); the ties are given (YtbojbpalkegahaaGreatDoorTie.lean); close each card by the builder's one call (the guide's Derived/Test/ToyasCard.lean, 'card_holds'). Laid BY PROGRAM, IN A SANDBOX (cutbox-door.mjs). By AI agents, Wed Nov 11 2026. No macro, syntax, notation, axiom, sorry.
-/
import Derived.Test.YtbojbpalkegahaaGreatDoorRows
import GoSem.ClaimSeven
namespace Go.Proofs.YtbojbpalkegahaaGreatDoor
namespace Rows

/-- THE TIED CARD OF 'drumlinlaw42.ModelMap'. -/
def modelMapCard : Claim7 := { stood := { row := modelMapRow, standIns := [], harness := (true, "2af0768a68cfc5fb9e3d33dd48d957ed3e5086da1740a620d570ea4929630377"), looks := true }, kinds := [], alts := [], laidByText := true, laidKinds := [.data, .data, .data, .data, .sentinel, .sentinel, .data, .pinned], laidTests := true, laidLooks := .later }
def ModelMapCardSaid : Prop := Claim7.holds Tryz.pinned (.plain (OpenSpec.ofChange modelMapSpec)) modelMapCard

/-- THE TIED CARD OF 'drumlinlaw42.ModelErrors'. -/
def modelErrorsCard : Claim7 := { stood := { row := modelErrorsRow, standIns := [], harness := (true, "2af0768a68cfc5fb9e3d33dd48d957ed3e5086da1740a620d570ea4929630377"), looks := true }, kinds := [], alts := [], laidByText := true, laidKinds := [.data, .data, .data, .data, .sentinel, .sentinel, .data, .pinned], laidTests := true, laidLooks := .later }
def ModelErrorsCardSaid : Prop := Claim7.holds Tryz.pinned (.plain (OpenSpec.ofChange modelErrorsSpec)) modelErrorsCard

/-- THE TIED CARD OF 'drumlinlaw42.ModelPrefixes'. -/
def modelPrefixesCard : Claim7 := { stood := { row := modelPrefixesRow, standIns := [], harness := (true, "2af0768a68cfc5fb9e3d33dd48d957ed3e5086da1740a620d570ea4929630377"), looks := true }, kinds := [], alts := [], laidByText := true, laidKinds := [.data, .data, .data, .data, .sentinel, .sentinel, .data, .pinned], laidTests := true, laidLooks := .later }
def ModelPrefixesCardSaid : Prop := Claim7.holds Tryz.pinned (.plain (OpenSpec.ofChange modelPrefixesSpec)) modelPrefixesCard

/-- THE TIED CARD OF 'drumlinlaw42.ModelDown'. -/
def modelDownCard : Claim7 := { stood := { row := modelDownRow, standIns := [], harness := (true, "2af0768a68cfc5fb9e3d33dd48d957ed3e5086da1740a620d570ea4929630377"), looks := true }, kinds := [], alts := [], laidByText := true, laidKinds := [.data, .data, .data, .data, .sentinel, .sentinel, .data, .pinned], laidTests := true, laidLooks := .later }
def ModelDownCardSaid : Prop := Claim7.holds Tryz.pinned (.plain (OpenSpec.ofChange modelDownSpec)) modelDownCard

/-- THE SECOND FORM's CARD OF 'drumlinlaw42.ModelMap'. -/
def modelMapUptoCard : Claim7 := { stood := { row := modelMapUptoRow, standIns := [], harness := (true, "2af0768a68cfc5fb9e3d33dd48d957ed3e5086da1740a620d570ea4929630377"), looks := true }, kinds := [], alts := [], laidByText := true, laidKinds := [.data, .data, .data, .data, .sentinel, .sentinel, .data, .pinned], laidTests := true, laidLooks := .later }
def ModelMapUptoCardSaid : Prop := Claim7.holds Tryz.pinned (.plain (OpenSpec.upto modelMapSpec)) modelMapUptoCard

/-- THE SECOND FORM's CARD OF 'drumlinlaw42.ModelErrors'. -/
def modelErrorsUptoCard : Claim7 := { stood := { row := modelErrorsUptoRow, standIns := [], harness := (true, "2af0768a68cfc5fb9e3d33dd48d957ed3e5086da1740a620d570ea4929630377"), looks := true }, kinds := [], alts := [], laidByText := true, laidKinds := [.data, .data, .data, .data, .sentinel, .sentinel, .data, .pinned], laidTests := true, laidLooks := .later }
def ModelErrorsUptoCardSaid : Prop := Claim7.holds Tryz.pinned (.plain (OpenSpec.upto modelErrorsSpec)) modelErrorsUptoCard

/-- THE SECOND FORM's CARD OF 'drumlinlaw42.ModelPrefixes'. -/
def modelPrefixesUptoCard : Claim7 := { stood := { row := modelPrefixesUptoRow, standIns := [], harness := (true, "2af0768a68cfc5fb9e3d33dd48d957ed3e5086da1740a620d570ea4929630377"), looks := true }, kinds := [], alts := [], laidByText := true, laidKinds := [.data, .data, .data, .data, .sentinel, .sentinel, .data, .pinned], laidTests := true, laidLooks := .later }
def ModelPrefixesUptoCardSaid : Prop := Claim7.holds Tryz.pinned (.plain (OpenSpec.upto modelPrefixesSpec)) modelPrefixesUptoCard

/-- THE SECOND FORM's CARD OF 'drumlinlaw42.ModelDown'. -/
def modelDownUptoCard : Claim7 := { stood := { row := modelDownUptoRow, standIns := [], harness := (true, "2af0768a68cfc5fb9e3d33dd48d957ed3e5086da1740a620d570ea4929630377"), looks := true }, kinds := [], alts := [], laidByText := true, laidKinds := [.data, .data, .data, .data, .sentinel, .sentinel, .data, .pinned], laidTests := true, laidLooks := .later }
def ModelDownUptoCardSaid : Prop := Claim7.holds Tryz.pinned (.plain (OpenSpec.upto modelDownSpec)) modelDownUptoCard
end Rows
end Go.Proofs.YtbojbpalkegahaaGreatDoor
