/-
  DERIVED. GIVEN WITH THE SEED: THE CARDS: each row of YtdlfppandkdjfaaGreatDoorRows.lean that lists a variable, with what it lists TIED to the program's text (the seventh form; the later family's looks); each row that meets fmt, with fmt's text TOLD by the authors' own Lean function (tested against real Go, not proved from fmt's source: count such statements apart). THE CARD IS WHAT COUNTS. Prove the row's statement (the work); the ties are given (YtdlfppandkdjfaaGreatDoorTie.lean); close each card by the builder's one call (the guide's Derived/Test/ToyasCard.lean, 'card_holds'). Laid BY PROGRAM, IN A SANDBOX (cutbox-door.mjs). By AI agents, Wed Nov 11 2026. No macro, syntax, notation, axiom, sorry.
-/
import Derived.Test.YtdlfppandkdjfaaGreatDoorRows
import GoSem.ClaimSeven
namespace Go.Proofs.YtdlfppandkdjfaaGreatDoor
namespace Rows

/-- THE TIED CARD OF 'drumlinlaw29.OutputNil'. -/
def outputNilCard : Claim7 := { stood := { row := outputNilRow, standIns := [], harness := (true, "42643ef028db57113a13d27bf5e10945def51c542cffc21c802eb5fe23313222"), looks := false }, kinds := [], alts := [], laidByText := true, laidKinds := [.data, .data], laidTests := true, laidLooks := .later }
def OutputNilCardSaid : Prop := Claim7.holds Tryz.pinned (.plain (OpenSpec.ofChange outputNilSpec)) outputNilCard

/-- THE SECOND FORM's CARD OF 'drumlinlaw29.OutputNil'. -/
def outputNilUptoCard : Claim7 := { stood := { row := outputNilUptoRow, standIns := [], harness := (true, "42643ef028db57113a13d27bf5e10945def51c542cffc21c802eb5fe23313222"), looks := false }, kinds := [], alts := [], laidByText := true, laidKinds := [.data, .data], laidTests := true, laidLooks := .later }
def OutputNilUptoCardSaid : Prop := Claim7.holds Tryz.pinned (.plain (OpenSpec.upto outputNilSpec)) outputNilUptoCard
end Rows
end Go.Proofs.YtdlfppandkdjfaaGreatDoor
