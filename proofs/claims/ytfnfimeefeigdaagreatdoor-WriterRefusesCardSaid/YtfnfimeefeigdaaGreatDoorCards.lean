/-
  DERIVED. GIVEN WITH THE SEED: THE CARDS: each row of YtfnfimeefeigdaaGreatDoorRows.lean that lists a variable, with what it lists TIED to the program's text (the seventh form; the later family's looks); each row that meets fmt, with fmt's text TOLD by the authors' own Lean function (tested against real Go, not proved from fmt's source: count such statements apart). THE CARD IS WHAT COUNTS. Prove the row's statement (the work); the ties are given (YtfnfimeefeigdaaGreatDoorTie.lean); close each card by the builder's one call (the guide's Derived/Test/ToyasCard.lean, 'card_holds'). Laid BY PROGRAM, IN A SANDBOX (cutbox-door.mjs). By AI agents, Wed Nov 11 2026. No macro, syntax, notation, axiom, sorry.
-/
import Derived.Test.YtfnfimeefeigdaaGreatDoorRows
import GoSem.ClaimSeven
namespace Go.Proofs.YtfnfimeefeigdaaGreatDoor
namespace Rows

/-- THE TIED CARD OF 'drumlinlaw33.WriterSyncs'. -/
def writerSyncsCard : Claim7 := { stood := { row := writerSyncsRow, standIns := [], harness := (true, "ba07ee1b7172df926912c5380ff04cb0a94f37c6368904cbb3bed6fa5257916d"), looks := false }, kinds := [], alts := [], laidByText := true, laidKinds := [.data, .data], laidTests := true, laidLooks := .later }
def WriterSyncsCardSaid : Prop := Claim7.holds Tryz.pinned (.plain (OpenSpec.ofChange writerSyncsSpec)) writerSyncsCard

/-- THE TIED CARD OF 'drumlinlaw33.WriterBusy'. -/
def writerBusyCard : Claim7 := { stood := { row := writerBusyRow, standIns := [], harness := (true, "ba07ee1b7172df926912c5380ff04cb0a94f37c6368904cbb3bed6fa5257916d"), looks := false }, kinds := [], alts := [], laidByText := true, laidKinds := [.data, .data], laidTests := true, laidLooks := .later }
def WriterBusyCardSaid : Prop := Claim7.holds Tryz.pinned (.plain (OpenSpec.ofChange writerBusySpec)) writerBusyCard

/-- THE TIED CARD OF 'drumlinlaw33.WriterRefuses'. -/
def writerRefusesCard : Claim7 := { stood := { row := writerRefusesRow, standIns := [], harness := (true, "ba07ee1b7172df926912c5380ff04cb0a94f37c6368904cbb3bed6fa5257916d"), looks := false }, kinds := [], alts := [], laidByText := true, laidKinds := [.data, .data], laidTests := true, laidLooks := .later }
def WriterRefusesCardSaid : Prop := Claim7.holds Tryz.pinned (.plain (OpenSpec.ofChange writerRefusesSpec)) writerRefusesCard

/-- THE TIED CARD OF 'drumlinlaw33.WriterAppends'. -/
def writerAppendsCard : Claim7 := { stood := { row := writerAppendsRow, standIns := [], harness := (true, "ba07ee1b7172df926912c5380ff04cb0a94f37c6368904cbb3bed6fa5257916d"), looks := false }, kinds := [], alts := [], laidByText := true, laidKinds := [.data, .data], laidTests := true, laidLooks := .later }
def WriterAppendsCardSaid : Prop := Claim7.holds Tryz.pinned (.plain (OpenSpec.ofChange writerAppendsSpec)) writerAppendsCard

/-- THE TIED CARD OF 'drumlinlaw33.WriterPrefix'. -/
def writerPrefixCard : Claim7 := { stood := { row := writerPrefixRow, standIns := [], harness := (true, "ba07ee1b7172df926912c5380ff04cb0a94f37c6368904cbb3bed6fa5257916d"), looks := false }, kinds := [], alts := [], laidByText := true, laidKinds := [.data, .data], laidTests := true, laidLooks := .later }
def WriterPrefixCardSaid : Prop := Claim7.holds Tryz.pinned (.plain (OpenSpec.ofChange writerPrefixSpec)) writerPrefixCard

/-- THE SECOND FORM's CARD OF 'drumlinlaw33.WriterSyncs'. -/
def writerSyncsUptoCard : Claim7 := { stood := { row := writerSyncsUptoRow, standIns := [], harness := (true, "ba07ee1b7172df926912c5380ff04cb0a94f37c6368904cbb3bed6fa5257916d"), looks := false }, kinds := [], alts := [], laidByText := true, laidKinds := [.data, .data], laidTests := true, laidLooks := .later }
def WriterSyncsUptoCardSaid : Prop := Claim7.holds Tryz.pinned (.plain (OpenSpec.upto writerSyncsSpec)) writerSyncsUptoCard

/-- THE SECOND FORM's CARD OF 'drumlinlaw33.WriterBusy'. -/
def writerBusyUptoCard : Claim7 := { stood := { row := writerBusyUptoRow, standIns := [], harness := (true, "ba07ee1b7172df926912c5380ff04cb0a94f37c6368904cbb3bed6fa5257916d"), looks := false }, kinds := [], alts := [], laidByText := true, laidKinds := [.data, .data], laidTests := true, laidLooks := .later }
def WriterBusyUptoCardSaid : Prop := Claim7.holds Tryz.pinned (.plain (OpenSpec.upto writerBusySpec)) writerBusyUptoCard

/-- THE SECOND FORM's CARD OF 'drumlinlaw33.WriterRefuses'. -/
def writerRefusesUptoCard : Claim7 := { stood := { row := writerRefusesUptoRow, standIns := [], harness := (true, "ba07ee1b7172df926912c5380ff04cb0a94f37c6368904cbb3bed6fa5257916d"), looks := false }, kinds := [], alts := [], laidByText := true, laidKinds := [.data, .data], laidTests := true, laidLooks := .later }
def WriterRefusesUptoCardSaid : Prop := Claim7.holds Tryz.pinned (.plain (OpenSpec.upto writerRefusesSpec)) writerRefusesUptoCard

/-- THE SECOND FORM's CARD OF 'drumlinlaw33.WriterAppends'. -/
def writerAppendsUptoCard : Claim7 := { stood := { row := writerAppendsUptoRow, standIns := [], harness := (true, "ba07ee1b7172df926912c5380ff04cb0a94f37c6368904cbb3bed6fa5257916d"), looks := false }, kinds := [], alts := [], laidByText := true, laidKinds := [.data, .data], laidTests := true, laidLooks := .later }
def WriterAppendsUptoCardSaid : Prop := Claim7.holds Tryz.pinned (.plain (OpenSpec.upto writerAppendsSpec)) writerAppendsUptoCard

/-- THE SECOND FORM's CARD OF 'drumlinlaw33.WriterPrefix'. -/
def writerPrefixUptoCard : Claim7 := { stood := { row := writerPrefixUptoRow, standIns := [], harness := (true, "ba07ee1b7172df926912c5380ff04cb0a94f37c6368904cbb3bed6fa5257916d"), looks := false }, kinds := [], alts := [], laidByText := true, laidKinds := [.data, .data], laidTests := true, laidLooks := .later }
def WriterPrefixUptoCardSaid : Prop := Claim7.holds Tryz.pinned (.plain (OpenSpec.upto writerPrefixSpec)) writerPrefixUptoCard
end Rows
end Go.Proofs.YtfnfimeefeigdaaGreatDoor
