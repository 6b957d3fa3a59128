/-
  DERIVED. GIVEN WITH THE SEED: THE CARDS: each row of YtehdneclbfldaaaGreatDoorRows.lean that lists a variable, with what it lists TIED to the program's text (the seventh form; the later family's looks); each row that meets fmt, with fmt's text TOLD by the authors' own Lean function (tested against real Go, not proved from fmt's source: count such statements apart). THE CARD IS WHAT COUNTS. Prove the row's statement (the work); the ties are given (YtehdneclbfldaaaGreatDoorTie.lean); close each card by the builder's one call (the guide's Derived/Test/ToyasCard.lean, 'card_holds'). Laid BY PROGRAM, IN A SANDBOX (cutbox-door.mjs). By AI agents, Wed Nov 11 2026. No macro, syntax, notation, axiom, sorry.
-/
import Derived.Test.YtehdneclbfldaaaGreatDoorRows
import GoSem.ClaimSeven
namespace Go.Proofs.YtehdneclbfldaaaGreatDoor
namespace Rows

/-- THE TIED CARD OF 'drumlinlaw33.WriterNil'. -/
def writerNilCard : Claim7 := { stood := { row := writerNilRow, standIns := [], harness := (true, "908b62ba284b47d4852f96fcaa6552942c394b45d3c0074bda9ced16423116f0"), looks := false }, kinds := [], alts := [], laidByText := true, laidKinds := [.data, .data], laidTests := true, laidLooks := .later }
def WriterNilCardSaid : Prop := Claim7.holds Tryz.pinned (.plain (OpenSpec.ofChange writerNilSpec)) writerNilCard

/-- THE TIED CARD OF 'drumlinlaw35.RecoveryNil'. -/
def recoveryNilCard : Claim7 := { stood := { row := recoveryNilRow, standIns := [], harness := (true, "908b62ba284b47d4852f96fcaa6552942c394b45d3c0074bda9ced16423116f0"), looks := false }, kinds := [], alts := [], laidByText := true, laidKinds := [.data], laidTests := true, laidLooks := .later }
def RecoveryNilCardSaid : Prop := Claim7.holds Tryz.pinned (.plain (OpenSpec.ofChange recoveryNilSpec)) recoveryNilCard

/-- THE TIED CARD OF 'drumlinlaw35.RecoverySyncs'. -/
def recoverySyncsCard : Claim7 := { stood := { row := recoverySyncsRow, standIns := [], harness := (true, "908b62ba284b47d4852f96fcaa6552942c394b45d3c0074bda9ced16423116f0"), looks := false }, kinds := [], alts := [], laidByText := true, laidKinds := [.data], laidTests := true, laidLooks := .later }
def RecoverySyncsCardSaid : Prop := Claim7.holds Tryz.pinned (.plain (OpenSpec.ofChange recoverySyncsSpec)) recoverySyncsCard

/-- THE TIED CARD OF 'drumlinlaw35.RecoveryTears'. -/
def recoveryTearsCard : Claim7 := { stood := { row := recoveryTearsRow, standIns := [], harness := (true, "908b62ba284b47d4852f96fcaa6552942c394b45d3c0074bda9ced16423116f0"), looks := false }, kinds := [], alts := [], laidByText := true, laidKinds := [.data], laidTests := true, laidLooks := .later }
def RecoveryTearsCardSaid : Prop := Claim7.holds Tryz.pinned (.plain (OpenSpec.ofChange recoveryTearsSpec)) recoveryTearsCard

/-- THE TIED CARD OF 'drumlinlaw35.RecoveryFinds'. -/
def recoveryFindsCard : Claim7 := { stood := { row := recoveryFindsRow, standIns := [], harness := (true, "908b62ba284b47d4852f96fcaa6552942c394b45d3c0074bda9ced16423116f0"), looks := false }, kinds := [], alts := [], laidByText := true, laidKinds := [.data], laidTests := true, laidLooks := .later }
def RecoveryFindsCardSaid : Prop := Claim7.holds Tryz.pinned (.plain (OpenSpec.ofChange recoveryFindsSpec)) recoveryFindsCard

/-- THE TIED CARD OF 'drumlinlaw29.OutputFills'. -/
def outputFillsCard : Claim7 := { stood := { row := outputFillsRow, standIns := [], harness := (true, "908b62ba284b47d4852f96fcaa6552942c394b45d3c0074bda9ced16423116f0"), looks := false }, kinds := [], alts := [], laidByText := true, laidKinds := [.data, .data], laidTests := true, laidLooks := .later }
def OutputFillsCardSaid : Prop := Claim7.holds Tryz.pinned (.plain (OpenSpec.ofChange outputFillsSpec)) outputFillsCard

/-- THE TIED CARD OF 'drumlinlaw29.OutputCopies'. -/
def outputCopiesCard : Claim7 := { stood := { row := outputCopiesRow, standIns := [], harness := (true, "908b62ba284b47d4852f96fcaa6552942c394b45d3c0074bda9ced16423116f0"), looks := false }, kinds := [], alts := [], laidByText := true, laidKinds := [.data, .data], laidTests := true, laidLooks := .later }
def OutputCopiesCardSaid : Prop := Claim7.holds Tryz.pinned (.plain (OpenSpec.ofChange outputCopiesSpec)) outputCopiesCard

/-- THE TIED CARD OF 'drumlinlaw35.RecoveryPlays'. -/
def recoveryPlaysCard : Claim7 := { stood := { row := recoveryPlaysRow, standIns := [], harness := (true, "908b62ba284b47d4852f96fcaa6552942c394b45d3c0074bda9ced16423116f0"), looks := false }, kinds := [], alts := [], laidByText := true, laidKinds := [.data], laidTests := true, laidLooks := .later }
def RecoveryPlaysCardSaid : Prop := Claim7.holds Tryz.pinned (.plain (OpenSpec.ofChange recoveryPlaysSpec)) recoveryPlaysCard

/-- THE TIED CARD OF 'drumlinlaw33.WriterBusy'. -/
def writerBusyCard : Claim7 := { stood := { row := writerBusyRow, standIns := [], harness := (true, "908b62ba284b47d4852f96fcaa6552942c394b45d3c0074bda9ced16423116f0"), looks := false }, kinds := [], alts := [], laidByText := true, laidKinds := [.data, .data], laidTests := true, laidLooks := .later }
def WriterBusyCardSaid : Prop := Claim7.holds Tryz.pinned (.plain (OpenSpec.ofChange writerBusySpec)) writerBusyCard

/-- THE TIED CARD OF 'drumlinlaw29.OutputPlays'. -/
def outputPlaysCard : Claim7 := { stood := { row := outputPlaysRow, standIns := [], harness := (true, "908b62ba284b47d4852f96fcaa6552942c394b45d3c0074bda9ced16423116f0"), looks := false }, kinds := [], alts := [], laidByText := true, laidKinds := [.data, .data], laidTests := true, laidLooks := .later }
def OutputPlaysCardSaid : Prop := Claim7.holds Tryz.pinned (.plain (OpenSpec.ofChange outputPlaysSpec)) outputPlaysCard

/-- THE TIED CARD OF 'drumlinlaw35.RecoveryRefuses'. -/
def recoveryRefusesCard : Claim7 := { stood := { row := recoveryRefusesRow, standIns := [], harness := (true, "908b62ba284b47d4852f96fcaa6552942c394b45d3c0074bda9ced16423116f0"), looks := false }, kinds := [], alts := [], laidByText := true, laidKinds := [.data], laidTests := true, laidLooks := .later }
def RecoveryRefusesCardSaid : Prop := Claim7.holds Tryz.pinned (.plain (OpenSpec.ofChange recoveryRefusesSpec)) recoveryRefusesCard

/-- THE TIED CARD OF 'drumlinlaw29.OutputRefuses'. -/
def outputRefusesCard : Claim7 := { stood := { row := outputRefusesRow, standIns := [], harness := (true, "908b62ba284b47d4852f96fcaa6552942c394b45d3c0074bda9ced16423116f0"), looks := false }, kinds := [], alts := [], laidByText := true, laidKinds := [.data, .data], laidTests := true, laidLooks := .later }
def OutputRefusesCardSaid : Prop := Claim7.holds Tryz.pinned (.plain (OpenSpec.ofChange outputRefusesSpec)) outputRefusesCard

/-- THE TIED CARD OF 'drumlinlaw33.WriterSyncs'. -/
def writerSyncsCard : Claim7 := { stood := { row := writerSyncsRow, standIns := [], harness := (true, "908b62ba284b47d4852f96fcaa6552942c394b45d3c0074bda9ced16423116f0"), looks := false }, kinds := [], alts := [], laidByText := true, laidKinds := [.data, .data], laidTests := true, laidLooks := .later }
def WriterSyncsCardSaid : Prop := Claim7.holds Tryz.pinned (.plain (OpenSpec.ofChange writerSyncsSpec)) writerSyncsCard

/-- THE TIED CARD OF 'drumlinlaw33.WriterRefuses'. -/
def writerRefusesCard : Claim7 := { stood := { row := writerRefusesRow, standIns := [], harness := (true, "908b62ba284b47d4852f96fcaa6552942c394b45d3c0074bda9ced16423116f0"), looks := false }, kinds := [], alts := [], laidByText := true, laidKinds := [.data, .data], laidTests := true, laidLooks := .later }
def WriterRefusesCardSaid : Prop := Claim7.holds Tryz.pinned (.plain (OpenSpec.ofChange writerRefusesSpec)) writerRefusesCard

/-- THE TIED CARD OF 'drumlinlaw33.WriterPlays'. -/
def writerPlaysCard : Claim7 := { stood := { row := writerPlaysRow, standIns := [], harness := (true, "908b62ba284b47d4852f96fcaa6552942c394b45d3c0074bda9ced16423116f0"), looks := false }, kinds := [], alts := [], laidByText := true, laidKinds := [.data, .data], laidTests := true, laidLooks := .later }
def WriterPlaysCardSaid : Prop := Claim7.holds Tryz.pinned (.plain (OpenSpec.ofChange writerPlaysSpec)) writerPlaysCard

/-- THE TIED CARD OF 'drumlinlaw29.OutputCrashes'. -/
def outputCrashesCard : Claim7 := { stood := { row := outputCrashesRow, standIns := [], harness := (true, "908b62ba284b47d4852f96fcaa6552942c394b45d3c0074bda9ced16423116f0"), looks := false }, kinds := [], alts := [], laidByText := true, laidKinds := [.data, .data], laidTests := true, laidLooks := .later }
def OutputCrashesCardSaid : Prop := Claim7.holds Tryz.pinned (.plain (OpenSpec.ofChange outputCrashesSpec)) outputCrashesCard

/-- THE TIED CARD OF 'drumlinlaw29.OutputCloses'. -/
def outputClosesCard : Claim7 := { stood := { row := outputClosesRow, standIns := [], harness := (true, "908b62ba284b47d4852f96fcaa6552942c394b45d3c0074bda9ced16423116f0"), looks := false }, kinds := [], alts := [], laidByText := true, laidKinds := [.data, .data], laidTests := true, laidLooks := .later }
def OutputClosesCardSaid : Prop := Claim7.holds Tryz.pinned (.plain (OpenSpec.ofChange outputClosesSpec)) outputClosesCard

/-- THE TIED CARD OF 'drumlinlaw33.WriterPrefix'. -/
def writerPrefixCard : Claim7 := { stood := { row := writerPrefixRow, standIns := [], harness := (true, "908b62ba284b47d4852f96fcaa6552942c394b45d3c0074bda9ced16423116f0"), looks := false }, kinds := [], alts := [], laidByText := true, laidKinds := [.data, .data], laidTests := true, laidLooks := .later }
def WriterPrefixCardSaid : Prop := Claim7.holds Tryz.pinned (.plain (OpenSpec.ofChange writerPrefixSpec)) writerPrefixCard

/-- THE TIED CARD OF 'drumlinlaw33.WriterAppends'. -/
def writerAppendsCard : Claim7 := { stood := { row := writerAppendsRow, standIns := [], harness := (true, "908b62ba284b47d4852f96fcaa6552942c394b45d3c0074bda9ced16423116f0"), looks := false }, kinds := [], alts := [], laidByText := true, laidKinds := [.data, .data], laidTests := true, laidLooks := .later }
def WriterAppendsCardSaid : Prop := Claim7.holds Tryz.pinned (.plain (OpenSpec.ofChange writerAppendsSpec)) writerAppendsCard

/-- THE SECOND FORM's CARD OF 'drumlinlaw33.WriterNil'. -/
def writerNilUptoCard : Claim7 := { stood := { row := writerNilUptoRow, standIns := [], harness := (true, "908b62ba284b47d4852f96fcaa6552942c394b45d3c0074bda9ced16423116f0"), looks := false }, kinds := [], alts := [], laidByText := true, laidKinds := [.data, .data], laidTests := true, laidLooks := .later }
def WriterNilUptoCardSaid : Prop := Claim7.holds Tryz.pinned (.plain (OpenSpec.upto writerNilSpec)) writerNilUptoCard

/-- THE SECOND FORM's CARD OF 'drumlinlaw35.RecoveryNil'. -/
def recoveryNilUptoCard : Claim7 := { stood := { row := recoveryNilUptoRow, standIns := [], harness := (true, "908b62ba284b47d4852f96fcaa6552942c394b45d3c0074bda9ced16423116f0"), looks := false }, kinds := [], alts := [], laidByText := true, laidKinds := [.data], laidTests := true, laidLooks := .later }
def RecoveryNilUptoCardSaid : Prop := Claim7.holds Tryz.pinned (.plain (OpenSpec.upto recoveryNilSpec)) recoveryNilUptoCard

/-- THE SECOND FORM's CARD OF 'drumlinlaw35.RecoverySyncs'. -/
def recoverySyncsUptoCard : Claim7 := { stood := { row := recoverySyncsUptoRow, standIns := [], harness := (true, "908b62ba284b47d4852f96fcaa6552942c394b45d3c0074bda9ced16423116f0"), looks := false }, kinds := [], alts := [], laidByText := true, laidKinds := [.data], laidTests := true, laidLooks := .later }
def RecoverySyncsUptoCardSaid : Prop := Claim7.holds Tryz.pinned (.plain (OpenSpec.upto recoverySyncsSpec)) recoverySyncsUptoCard

/-- THE SECOND FORM's CARD OF 'drumlinlaw35.RecoveryTears'. -/
def recoveryTearsUptoCard : Claim7 := { stood := { row := recoveryTearsUptoRow, standIns := [], harness := (true, "908b62ba284b47d4852f96fcaa6552942c394b45d3c0074bda9ced16423116f0"), looks := false }, kinds := [], alts := [], laidByText := true, laidKinds := [.data], laidTests := true, laidLooks := .later }
def RecoveryTearsUptoCardSaid : Prop := Claim7.holds Tryz.pinned (.plain (OpenSpec.upto recoveryTearsSpec)) recoveryTearsUptoCard

/-- THE SECOND FORM's CARD OF 'drumlinlaw35.RecoveryFinds'. -/
def recoveryFindsUptoCard : Claim7 := { stood := { row := recoveryFindsUptoRow, standIns := [], harness := (true, "908b62ba284b47d4852f96fcaa6552942c394b45d3c0074bda9ced16423116f0"), looks := false }, kinds := [], alts := [], laidByText := true, laidKinds := [.data], laidTests := true, laidLooks := .later }
def RecoveryFindsUptoCardSaid : Prop := Claim7.holds Tryz.pinned (.plain (OpenSpec.upto recoveryFindsSpec)) recoveryFindsUptoCard

/-- THE SECOND FORM's CARD OF 'drumlinlaw29.OutputFills'. -/
def outputFillsUptoCard : Claim7 := { stood := { row := outputFillsUptoRow, standIns := [], harness := (true, "908b62ba284b47d4852f96fcaa6552942c394b45d3c0074bda9ced16423116f0"), looks := false }, kinds := [], alts := [], laidByText := true, laidKinds := [.data, .data], laidTests := true, laidLooks := .later }
def OutputFillsUptoCardSaid : Prop := Claim7.holds Tryz.pinned (.plain (OpenSpec.upto outputFillsSpec)) outputFillsUptoCard

/-- THE SECOND FORM's CARD OF 'drumlinlaw29.OutputCopies'. -/
def outputCopiesUptoCard : Claim7 := { stood := { row := outputCopiesUptoRow, standIns := [], harness := (true, "908b62ba284b47d4852f96fcaa6552942c394b45d3c0074bda9ced16423116f0"), looks := false }, kinds := [], alts := [], laidByText := true, laidKinds := [.data, .data], laidTests := true, laidLooks := .later }
def OutputCopiesUptoCardSaid : Prop := Claim7.holds Tryz.pinned (.plain (OpenSpec.upto outputCopiesSpec)) outputCopiesUptoCard

/-- THE SECOND FORM's CARD OF 'drumlinlaw35.RecoveryPlays'. -/
def recoveryPlaysUptoCard : Claim7 := { stood := { row := recoveryPlaysUptoRow, standIns := [], harness := (true, "908b62ba284b47d4852f96fcaa6552942c394b45d3c0074bda9ced16423116f0"), looks := false }, kinds := [], alts := [], laidByText := true, laidKinds := [.data], laidTests := true, laidLooks := .later }
def RecoveryPlaysUptoCardSaid : Prop := Claim7.holds Tryz.pinned (.plain (OpenSpec.upto recoveryPlaysSpec)) recoveryPlaysUptoCard

/-- THE SECOND FORM's CARD OF 'drumlinlaw33.WriterBusy'. -/
def writerBusyUptoCard : Claim7 := { stood := { row := writerBusyUptoRow, standIns := [], harness := (true, "908b62ba284b47d4852f96fcaa6552942c394b45d3c0074bda9ced16423116f0"), looks := false }, kinds := [], alts := [], laidByText := true, laidKinds := [.data, .data], laidTests := true, laidLooks := .later }
def WriterBusyUptoCardSaid : Prop := Claim7.holds Tryz.pinned (.plain (OpenSpec.upto writerBusySpec)) writerBusyUptoCard

/-- THE SECOND FORM's CARD OF 'drumlinlaw29.OutputPlays'. -/
def outputPlaysUptoCard : Claim7 := { stood := { row := outputPlaysUptoRow, standIns := [], harness := (true, "908b62ba284b47d4852f96fcaa6552942c394b45d3c0074bda9ced16423116f0"), looks := false }, kinds := [], alts := [], laidByText := true, laidKinds := [.data, .data], laidTests := true, laidLooks := .later }
def OutputPlaysUptoCardSaid : Prop := Claim7.holds Tryz.pinned (.plain (OpenSpec.upto outputPlaysSpec)) outputPlaysUptoCard

/-- THE SECOND FORM's CARD OF 'drumlinlaw35.RecoveryRefuses'. -/
def recoveryRefusesUptoCard : Claim7 := { stood := { row := recoveryRefusesUptoRow, standIns := [], harness := (true, "908b62ba284b47d4852f96fcaa6552942c394b45d3c0074bda9ced16423116f0"), looks := false }, kinds := [], alts := [], laidByText := true, laidKinds := [.data], laidTests := true, laidLooks := .later }
def RecoveryRefusesUptoCardSaid : Prop := Claim7.holds Tryz.pinned (.plain (OpenSpec.upto recoveryRefusesSpec)) recoveryRefusesUptoCard

/-- THE SECOND FORM's CARD OF 'drumlinlaw29.OutputRefuses'. -/
def outputRefusesUptoCard : Claim7 := { stood := { row := outputRefusesUptoRow, standIns := [], harness := (true, "908b62ba284b47d4852f96fcaa6552942c394b45d3c0074bda9ced16423116f0"), looks := false }, kinds := [], alts := [], laidByText := true, laidKinds := [.data, .data], laidTests := true, laidLooks := .later }
def OutputRefusesUptoCardSaid : Prop := Claim7.holds Tryz.pinned (.plain (OpenSpec.upto outputRefusesSpec)) outputRefusesUptoCard

/-- THE SECOND FORM's CARD OF 'drumlinlaw33.WriterSyncs'. -/
def writerSyncsUptoCard : Claim7 := { stood := { row := writerSyncsUptoRow, standIns := [], harness := (true, "908b62ba284b47d4852f96fcaa6552942c394b45d3c0074bda9ced16423116f0"), looks := false }, kinds := [], alts := [], laidByText := true, laidKinds := [.data, .data], laidTests := true, laidLooks := .later }
def WriterSyncsUptoCardSaid : Prop := Claim7.holds Tryz.pinned (.plain (OpenSpec.upto writerSyncsSpec)) writerSyncsUptoCard

/-- THE SECOND FORM's CARD OF 'drumlinlaw33.WriterRefuses'. -/
def writerRefusesUptoCard : Claim7 := { stood := { row := writerRefusesUptoRow, standIns := [], harness := (true, "908b62ba284b47d4852f96fcaa6552942c394b45d3c0074bda9ced16423116f0"), looks := false }, kinds := [], alts := [], laidByText := true, laidKinds := [.data, .data], laidTests := true, laidLooks := .later }
def WriterRefusesUptoCardSaid : Prop := Claim7.holds Tryz.pinned (.plain (OpenSpec.upto writerRefusesSpec)) writerRefusesUptoCard

/-- THE SECOND FORM's CARD OF 'drumlinlaw33.WriterPlays'. -/
def writerPlaysUptoCard : Claim7 := { stood := { row := writerPlaysUptoRow, standIns := [], harness := (true, "908b62ba284b47d4852f96fcaa6552942c394b45d3c0074bda9ced16423116f0"), looks := false }, kinds := [], alts := [], laidByText := true, laidKinds := [.data, .data], laidTests := true, laidLooks := .later }
def WriterPlaysUptoCardSaid : Prop := Claim7.holds Tryz.pinned (.plain (OpenSpec.upto writerPlaysSpec)) writerPlaysUptoCard

/-- THE SECOND FORM's CARD OF 'drumlinlaw29.OutputCrashes'. -/
def outputCrashesUptoCard : Claim7 := { stood := { row := outputCrashesUptoRow, standIns := [], harness := (true, "908b62ba284b47d4852f96fcaa6552942c394b45d3c0074bda9ced16423116f0"), looks := false }, kinds := [], alts := [], laidByText := true, laidKinds := [.data, .data], laidTests := true, laidLooks := .later }
def OutputCrashesUptoCardSaid : Prop := Claim7.holds Tryz.pinned (.plain (OpenSpec.upto outputCrashesSpec)) outputCrashesUptoCard

/-- THE SECOND FORM's CARD OF 'drumlinlaw29.OutputCloses'. -/
def outputClosesUptoCard : Claim7 := { stood := { row := outputClosesUptoRow, standIns := [], harness := (true, "908b62ba284b47d4852f96fcaa6552942c394b45d3c0074bda9ced16423116f0"), looks := false }, kinds := [], alts := [], laidByText := true, laidKinds := [.data, .data], laidTests := true, laidLooks := .later }
def OutputClosesUptoCardSaid : Prop := Claim7.holds Tryz.pinned (.plain (OpenSpec.upto outputClosesSpec)) outputClosesUptoCard

/-- THE SECOND FORM's CARD OF 'drumlinlaw33.WriterPrefix'. -/
def writerPrefixUptoCard : Claim7 := { stood := { row := writerPrefixUptoRow, standIns := [], harness := (true, "908b62ba284b47d4852f96fcaa6552942c394b45d3c0074bda9ced16423116f0"), looks := false }, kinds := [], alts := [], laidByText := true, laidKinds := [.data, .data], laidTests := true, laidLooks := .later }
def WriterPrefixUptoCardSaid : Prop := Claim7.holds Tryz.pinned (.plain (OpenSpec.upto writerPrefixSpec)) writerPrefixUptoCard

/-- THE SECOND FORM's CARD OF 'drumlinlaw33.WriterAppends'. -/
def writerAppendsUptoCard : Claim7 := { stood := { row := writerAppendsUptoRow, standIns := [], harness := (true, "908b62ba284b47d4852f96fcaa6552942c394b45d3c0074bda9ced16423116f0"), looks := false }, kinds := [], alts := [], laidByText := true, laidKinds := [.data, .data], laidTests := true, laidLooks := .later }
def WriterAppendsUptoCardSaid : Prop := Claim7.holds Tryz.pinned (.plain (OpenSpec.upto writerAppendsSpec)) writerAppendsUptoCard
end Rows
end Go.Proofs.YtehdneclbfldaaaGreatDoor
