/-
  DERIVED. GIVEN WITH THE SEED: THE CARDS: each row of YtihjcloanpfkaaaGreatDoorRows.lean that lists a variable, with what it lists TIED to the program's text (the seventh form; the later family's looks); each row that meets fmt, with fmt's text TOLD by the authors' own Lean function (tested against real Go, not proved from fmt's source: count such statements apart). THE CARD IS WHAT COUNTS. Prove the row's statement (the work); the ties are given (YtihjcloanpfkaaaGreatDoorTie.lean); close each card by the builder's one call (the guide's Derived/Test/ToyasCard.lean, 'card_holds'). Laid BY PROGRAM, IN A SANDBOX (cutbox-door.mjs). By AI agents, Wed Nov 11 2026. No macro, syntax, notation, axiom, sorry.
-/
import Derived.Test.YtihjcloanpfkaaaGreatDoorRows
import GoSem.ClaimSeven
namespace Go.Proofs.YtihjcloanpfkaaaGreatDoor
namespace Rows

/-- THE TIED CARD OF 'drumlinlaw41.PlayRandoms'. -/
def playRandomsCard : Claim7 := { stood := { row := playRandomsRow, standIns := [], harness := (true, "92ec3cfa37f6cd5170213ff46ee3f2c0a1d32a01a53e3458754b1fc2646cbdeb"), looks := true }, kinds := [], alts := [], laidByText := true, laidKinds := [.data, .data, .data, .data, .data, .data, .pinned, .data, .sentinel, .sentinel, .data], laidTests := true, laidLooks := .later }
def PlayRandomsCardSaid : Prop := Claim7.holds Tryz.pinned (.plain (OpenSpec.ofChange playRandomsSpec)) playRandomsCard

/-- THE TIED CARD OF 'drumlinlaw41.PlayTexts'. -/
def playTextsCard : Claim7 := { stood := { row := playTextsRow, standIns := [], harness := (true, "92ec3cfa37f6cd5170213ff46ee3f2c0a1d32a01a53e3458754b1fc2646cbdeb"), looks := true }, kinds := [], alts := [], laidByText := true, laidKinds := [.data, .data, .data, .data, .data, .data, .pinned, .data, .sentinel, .sentinel, .data], laidTests := true, laidLooks := .later }
def PlayTextsCardSaid : Prop := Claim7.holds Tryz.pinned (.plain (OpenSpec.ofChange playTextsSpec)) playTextsCard

/-- THE TIED CARD OF 'drumlinlaw41.PlayScripts'. -/
def playScriptsCard : Claim7 := { stood := { row := playScriptsRow, standIns := [], harness := (true, "92ec3cfa37f6cd5170213ff46ee3f2c0a1d32a01a53e3458754b1fc2646cbdeb"), looks := true }, kinds := [], alts := [], laidByText := true, laidKinds := [.data, .data, .data, .pinned, .data, .sentinel, .sentinel, .data, .data, .data, .data], laidTests := true, laidLooks := .later }
def PlayScriptsCardSaid : Prop := Claim7.holds Tryz.pinned (.plain (OpenSpec.ofChange playScriptsSpec)) playScriptsCard

/-- THE SECOND FORM's CARD OF 'drumlinlaw41.PlayRandoms'. -/
def playRandomsUptoCard : Claim7 := { stood := { row := playRandomsUptoRow, standIns := [], harness := (true, "92ec3cfa37f6cd5170213ff46ee3f2c0a1d32a01a53e3458754b1fc2646cbdeb"), looks := true }, kinds := [], alts := [], laidByText := true, laidKinds := [.data, .data, .data, .data, .data, .data, .pinned, .data, .sentinel, .sentinel, .data], laidTests := true, laidLooks := .later }
def PlayRandomsUptoCardSaid : Prop := Claim7.holds Tryz.pinned (.plain (OpenSpec.upto playRandomsSpec)) playRandomsUptoCard

/-- THE SECOND FORM's CARD OF 'drumlinlaw41.PlayTexts'. -/
def playTextsUptoCard : Claim7 := { stood := { row := playTextsUptoRow, standIns := [], harness := (true, "92ec3cfa37f6cd5170213ff46ee3f2c0a1d32a01a53e3458754b1fc2646cbdeb"), looks := true }, kinds := [], alts := [], laidByText := true, laidKinds := [.data, .data, .data, .data, .data, .data, .pinned, .data, .sentinel, .sentinel, .data], laidTests := true, laidLooks := .later }
def PlayTextsUptoCardSaid : Prop := Claim7.holds Tryz.pinned (.plain (OpenSpec.upto playTextsSpec)) playTextsUptoCard

/-- THE SECOND FORM's CARD OF 'drumlinlaw41.PlayScripts'. -/
def playScriptsUptoCard : Claim7 := { stood := { row := playScriptsUptoRow, standIns := [], harness := (true, "92ec3cfa37f6cd5170213ff46ee3f2c0a1d32a01a53e3458754b1fc2646cbdeb"), looks := true }, kinds := [], alts := [], laidByText := true, laidKinds := [.data, .data, .data, .pinned, .data, .sentinel, .sentinel, .data, .data, .data, .data], laidTests := true, laidLooks := .later }
def PlayScriptsUptoCardSaid : Prop := Claim7.holds Tryz.pinned (.plain (OpenSpec.upto playScriptsSpec)) playScriptsUptoCard
end Rows
end Go.Proofs.YtihjcloanpfkaaaGreatDoor
