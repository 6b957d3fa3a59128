/-
  DERIVED. GIVEN WITH THE SEED: THE CARDS: each row of YtfgamdmnljnonaaGreatDoorRows.lean that lists a variable, with what it lists TIED to the program's text (the seventh form; the later family's looks); each row that meets fmt, with fmt's text TOLD by the authors' own Lean function (tested against real Go, not proved from fmt's source: count such statements apart). THE CARD IS WHAT COUNTS. Prove the row's statement (the work); the ties are given (YtfgamdmnljnonaaGreatDoorTie.lean); close each card by the builder's one call (the guide's Derived/Test/ToyasCard.lean, 'card_holds'). Laid BY PROGRAM, IN A SANDBOX (cutbox-door.mjs). By AI agents, Wed Nov 11 2026. No macro, syntax, notation, axiom, sorry.
-/
import Derived.Test.YtfgamdmnljnonaaGreatDoorRows
import GoSem.ClaimSeven
namespace Go.Proofs.YtfgamdmnljnonaaGreatDoor
namespace Rows

/-- THE TIED CARD OF 'drumlinlaw41.PlayScripts'. -/
def playScriptsCard : Claim7 := { stood := { row := playScriptsRow, standIns := [], harness := (true, "2a44f764e00ef41188aa69c5e7de1948630bf703f5f8be375ae16ff87947236a"), looks := true }, kinds := [], alts := [], laidByText := true, laidKinds := [.data, .data, .data, .pinned, .data, .sentinel, .sentinel, .data, .data, .data, .data], laidTests := true, laidLooks := .later }
def PlayScriptsCardSaid : Prop := Claim7.holds Tryz.pinned (.plain (OpenSpec.ofChange playScriptsSpec)) playScriptsCard

/-- THE SECOND FORM's CARD OF 'drumlinlaw41.PlayScripts'. -/
def playScriptsUptoCard : Claim7 := { stood := { row := playScriptsUptoRow, standIns := [], harness := (true, "2a44f764e00ef41188aa69c5e7de1948630bf703f5f8be375ae16ff87947236a"), looks := true }, kinds := [], alts := [], laidByText := true, laidKinds := [.data, .data, .data, .pinned, .data, .sentinel, .sentinel, .data, .data, .data, .data], laidTests := true, laidLooks := .later }
def PlayScriptsUptoCardSaid : Prop := Claim7.holds Tryz.pinned (.plain (OpenSpec.upto playScriptsSpec)) playScriptsUptoCard
end Rows
end Go.Proofs.YtfgamdmnljnonaaGreatDoor
