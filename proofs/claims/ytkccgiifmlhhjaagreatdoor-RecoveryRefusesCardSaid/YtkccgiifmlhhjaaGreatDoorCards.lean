/-
  DERIVED. GIVEN WITH THE SEED: THE CARDS: each row of YtkccgiifmlhhjaaGreatDoorRows.lean that lists a variable, with what it lists TIED to the program's text (the seventh form; the later family's looks); each row that meets fmt, with fmt's text TOLD by the authors' own Lean function (tested against real Go, not proved from fmt's source: count such statements apart). THE CARD IS WHAT COUNTS. Prove the row's statement (the work); the ties are given (YtkccgiifmlhhjaaGreatDoorTie.lean); close each card by the builder's one call (the guide's Derived/Test/ToyasCard.lean, 'card_holds'). Laid BY PROGRAM, IN A SANDBOX (cutbox-door.mjs). By AI agents, Wed Nov 11 2026. No macro, syntax, notation, axiom, sorry.
-/
import Derived.Test.YtkccgiifmlhhjaaGreatDoorRows
import GoSem.ClaimSeven
namespace Go.Proofs.YtkccgiifmlhhjaaGreatDoor
namespace Rows

/-- THE TIED CARD OF 'drumlinlaw35.RecoverySyncs'. -/
def recoverySyncsCard : Claim7 := { stood := { row := recoverySyncsRow, standIns := [], harness := (true, "f9e94066edda22e01493401c6bbad435e00466c4201831aa512407ed8fe73444"), looks := false }, kinds := [], alts := [], laidByText := true, laidKinds := [.data], laidTests := true, laidLooks := .later }
def RecoverySyncsCardSaid : Prop := Claim7.holds Tryz.pinned (.plain (OpenSpec.ofChange recoverySyncsSpec)) recoverySyncsCard

/-- THE TIED CARD OF 'drumlinlaw35.RecoveryTears'. -/
def recoveryTearsCard : Claim7 := { stood := { row := recoveryTearsRow, standIns := [], harness := (true, "f9e94066edda22e01493401c6bbad435e00466c4201831aa512407ed8fe73444"), looks := false }, kinds := [], alts := [], laidByText := true, laidKinds := [.data], laidTests := true, laidLooks := .later }
def RecoveryTearsCardSaid : Prop := Claim7.holds Tryz.pinned (.plain (OpenSpec.ofChange recoveryTearsSpec)) recoveryTearsCard

/-- THE TIED CARD OF 'drumlinlaw35.RecoveryFinds'. -/
def recoveryFindsCard : Claim7 := { stood := { row := recoveryFindsRow, standIns := [], harness := (true, "f9e94066edda22e01493401c6bbad435e00466c4201831aa512407ed8fe73444"), looks := false }, kinds := [], alts := [], laidByText := true, laidKinds := [.data], laidTests := true, laidLooks := .later }
def RecoveryFindsCardSaid : Prop := Claim7.holds Tryz.pinned (.plain (OpenSpec.ofChange recoveryFindsSpec)) recoveryFindsCard

/-- THE TIED CARD OF 'drumlinlaw35.RecoveryRefuses'. -/
def recoveryRefusesCard : Claim7 := { stood := { row := recoveryRefusesRow, standIns := [], harness := (true, "f9e94066edda22e01493401c6bbad435e00466c4201831aa512407ed8fe73444"), looks := false }, kinds := [], alts := [], laidByText := true, laidKinds := [.data], laidTests := true, laidLooks := .later }
def RecoveryRefusesCardSaid : Prop := Claim7.holds Tryz.pinned (.plain (OpenSpec.ofChange recoveryRefusesSpec)) recoveryRefusesCard

/-- THE SECOND FORM's CARD OF 'drumlinlaw35.RecoverySyncs'. -/
def recoverySyncsUptoCard : Claim7 := { stood := { row := recoverySyncsUptoRow, standIns := [], harness := (true, "f9e94066edda22e01493401c6bbad435e00466c4201831aa512407ed8fe73444"), looks := false }, kinds := [], alts := [], laidByText := true, laidKinds := [.data], laidTests := true, laidLooks := .later }
def RecoverySyncsUptoCardSaid : Prop := Claim7.holds Tryz.pinned (.plain (OpenSpec.upto recoverySyncsSpec)) recoverySyncsUptoCard

/-- THE SECOND FORM's CARD OF 'drumlinlaw35.RecoveryTears'. -/
def recoveryTearsUptoCard : Claim7 := { stood := { row := recoveryTearsUptoRow, standIns := [], harness := (true, "f9e94066edda22e01493401c6bbad435e00466c4201831aa512407ed8fe73444"), looks := false }, kinds := [], alts := [], laidByText := true, laidKinds := [.data], laidTests := true, laidLooks := .later }
def RecoveryTearsUptoCardSaid : Prop := Claim7.holds Tryz.pinned (.plain (OpenSpec.upto recoveryTearsSpec)) recoveryTearsUptoCard

/-- THE SECOND FORM's CARD OF 'drumlinlaw35.RecoveryFinds'. -/
def recoveryFindsUptoCard : Claim7 := { stood := { row := recoveryFindsUptoRow, standIns := [], harness := (true, "f9e94066edda22e01493401c6bbad435e00466c4201831aa512407ed8fe73444"), looks := false }, kinds := [], alts := [], laidByText := true, laidKinds := [.data], laidTests := true, laidLooks := .later }
def RecoveryFindsUptoCardSaid : Prop := Claim7.holds Tryz.pinned (.plain (OpenSpec.upto recoveryFindsSpec)) recoveryFindsUptoCard

/-- THE SECOND FORM's CARD OF 'drumlinlaw35.RecoveryRefuses'. -/
def recoveryRefusesUptoCard : Claim7 := { stood := { row := recoveryRefusesUptoRow, standIns := [], harness := (true, "f9e94066edda22e01493401c6bbad435e00466c4201831aa512407ed8fe73444"), looks := false }, kinds := [], alts := [], laidByText := true, laidKinds := [.data], laidTests := true, laidLooks := .later }
def RecoveryRefusesUptoCardSaid : Prop := Claim7.holds Tryz.pinned (.plain (OpenSpec.upto recoveryRefusesSpec)) recoveryRefusesUptoCard
end Rows
end Go.Proofs.YtkccgiifmlhhjaaGreatDoor
