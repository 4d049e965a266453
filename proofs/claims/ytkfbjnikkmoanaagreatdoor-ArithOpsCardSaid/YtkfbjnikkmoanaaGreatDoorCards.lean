/-
  DERIVED. GIVEN WITH THE SEED: THE CARDS: each row of YtkfbjnikkmoanaaGreatDoorRows.lean that lists a variable, with what it lists TIED to the program's text (the seventh form; the later family's looks); each row that meets fmt, with fmt's text TOLD by the authors' own Lean function (tested against real Go, not proved from fmt's source: count such statements apart). THE CARD IS WHAT COUNTS. Prove the row's statement (the work); the ties are given (YtkfbjnikkmoanaaGreatDoorTie.lean); close each card by the builder's one call (the guide's Derived/Test/ToyasCard.lean, 'card_holds'). Laid BY PROGRAM, IN A SANDBOX (cutbox-door.mjs). By AI agents, Wed Nov 11 2026. No macro, syntax, notation, axiom, sorry.
-/
import Derived.Test.YtkfbjnikkmoanaaGreatDoorRows
import GoSem.ClaimSeven
namespace Go.Proofs.YtkfbjnikkmoanaaGreatDoor
namespace Rows

/-- THE TIED CARD OF 'hatchwaylaw20.ArithNumbers'. -/
def arithNumbersCard : Claim7 := { stood := { row := arithNumbersRow, standIns := [], harness := (true, "b907fe4ecd08cdc3f52ebdf0007081467cd55640702fd49d0b64b57dc931cb74"), looks := false }, kinds := [], alts := [], laidByText := true, laidKinds := [.data], laidTests := true, laidLooks := .later }
def ArithNumbersCardSaid : Prop := Claim7.holds Tryz.pinned (.plain (OpenSpec.ofChange arithNumbersSpec)) arithNumbersCard

/-- THE TIED CARD OF 'hatchwaylaw20.ArithTurned'. -/
def arithTurnedCard : Claim7 := { stood := { row := arithTurnedRow, standIns := [], harness := (true, "b907fe4ecd08cdc3f52ebdf0007081467cd55640702fd49d0b64b57dc931cb74"), looks := false }, kinds := [], alts := [], laidByText := true, laidKinds := [.data], laidTests := true, laidLooks := .later }
def ArithTurnedCardSaid : Prop := Claim7.holds Tryz.pinned (.plain (OpenSpec.ofChange arithTurnedSpec)) arithTurnedCard

/-- THE TIED CARD OF 'hatchwaylaw20.ArithLess'. -/
def arithLessCard : Claim7 := { stood := { row := arithLessRow, standIns := [], harness := (true, "b907fe4ecd08cdc3f52ebdf0007081467cd55640702fd49d0b64b57dc931cb74"), looks := false }, kinds := [], alts := [], laidByText := true, laidKinds := [.data], laidTests := true, laidLooks := .later }
def ArithLessCardSaid : Prop := Claim7.holds Tryz.pinned (.plain (OpenSpec.ofChange arithLessSpec)) arithLessCard

/-- THE TIED CARD OF 'hatchwaylaw20.ArithTells'. -/
def arithTellsCard : Claim7 := { stood := { row := arithTellsRow, standIns := [], harness := (true, "b907fe4ecd08cdc3f52ebdf0007081467cd55640702fd49d0b64b57dc931cb74"), looks := false }, kinds := [], alts := [], laidByText := true, laidKinds := [.data], laidTests := true, laidLooks := .later }
def ArithTellsCardSaid : Prop := Claim7.holds Tryz.pinned (.plain (OpenSpec.ofChange arithTellsSpec)) arithTellsCard

/-- THE TIED CARD OF 'hatchwaylaw20.ArithOps'. -/
def arithOpsCard : Claim7 := { stood := { row := arithOpsRow, standIns := [], harness := (true, "b907fe4ecd08cdc3f52ebdf0007081467cd55640702fd49d0b64b57dc931cb74"), looks := false }, kinds := [], alts := [], laidByText := true, laidKinds := [.data], laidTests := true, laidLooks := .later }
def ArithOpsCardSaid : Prop := Claim7.holds Tryz.pinned (.plain (OpenSpec.ofChange arithOpsSpec)) arithOpsCard

/-- THE TIED CARD OF 'hatchwaylaw20.ArithSound'. -/
def arithSoundCard : Claim7 := { stood := { row := arithSoundRow, standIns := [], harness := (true, "b907fe4ecd08cdc3f52ebdf0007081467cd55640702fd49d0b64b57dc931cb74"), looks := false }, kinds := [], alts := [], laidByText := true, laidKinds := [.data], laidTests := true, laidLooks := .later }
def ArithSoundCardSaid : Prop := Claim7.holds Tryz.pinned (.plain (OpenSpec.ofChange arithSoundSpec)) arithSoundCard

/-- THE SECOND FORM's CARD OF 'hatchwaylaw20.ArithNumbers'. -/
def arithNumbersUptoCard : Claim7 := { stood := { row := arithNumbersUptoRow, standIns := [], harness := (true, "b907fe4ecd08cdc3f52ebdf0007081467cd55640702fd49d0b64b57dc931cb74"), looks := false }, kinds := [], alts := [], laidByText := true, laidKinds := [.data], laidTests := true, laidLooks := .later }
def ArithNumbersUptoCardSaid : Prop := Claim7.holds Tryz.pinned (.plain (OpenSpec.upto arithNumbersSpec)) arithNumbersUptoCard

/-- THE SECOND FORM's CARD OF 'hatchwaylaw20.ArithTurned'. -/
def arithTurnedUptoCard : Claim7 := { stood := { row := arithTurnedUptoRow, standIns := [], harness := (true, "b907fe4ecd08cdc3f52ebdf0007081467cd55640702fd49d0b64b57dc931cb74"), looks := false }, kinds := [], alts := [], laidByText := true, laidKinds := [.data], laidTests := true, laidLooks := .later }
def ArithTurnedUptoCardSaid : Prop := Claim7.holds Tryz.pinned (.plain (OpenSpec.upto arithTurnedSpec)) arithTurnedUptoCard

/-- THE SECOND FORM's CARD OF 'hatchwaylaw20.ArithLess'. -/
def arithLessUptoCard : Claim7 := { stood := { row := arithLessUptoRow, standIns := [], harness := (true, "b907fe4ecd08cdc3f52ebdf0007081467cd55640702fd49d0b64b57dc931cb74"), looks := false }, kinds := [], alts := [], laidByText := true, laidKinds := [.data], laidTests := true, laidLooks := .later }
def ArithLessUptoCardSaid : Prop := Claim7.holds Tryz.pinned (.plain (OpenSpec.upto arithLessSpec)) arithLessUptoCard

/-- THE SECOND FORM's CARD OF 'hatchwaylaw20.ArithTells'. -/
def arithTellsUptoCard : Claim7 := { stood := { row := arithTellsUptoRow, standIns := [], harness := (true, "b907fe4ecd08cdc3f52ebdf0007081467cd55640702fd49d0b64b57dc931cb74"), looks := false }, kinds := [], alts := [], laidByText := true, laidKinds := [.data], laidTests := true, laidLooks := .later }
def ArithTellsUptoCardSaid : Prop := Claim7.holds Tryz.pinned (.plain (OpenSpec.upto arithTellsSpec)) arithTellsUptoCard

/-- THE SECOND FORM's CARD OF 'hatchwaylaw20.ArithOps'. -/
def arithOpsUptoCard : Claim7 := { stood := { row := arithOpsUptoRow, standIns := [], harness := (true, "b907fe4ecd08cdc3f52ebdf0007081467cd55640702fd49d0b64b57dc931cb74"), looks := false }, kinds := [], alts := [], laidByText := true, laidKinds := [.data], laidTests := true, laidLooks := .later }
def ArithOpsUptoCardSaid : Prop := Claim7.holds Tryz.pinned (.plain (OpenSpec.upto arithOpsSpec)) arithOpsUptoCard

/-- THE SECOND FORM's CARD OF 'hatchwaylaw20.ArithSound'. -/
def arithSoundUptoCard : Claim7 := { stood := { row := arithSoundUptoRow, standIns := [], harness := (true, "b907fe4ecd08cdc3f52ebdf0007081467cd55640702fd49d0b64b57dc931cb74"), looks := false }, kinds := [], alts := [], laidByText := true, laidKinds := [.data], laidTests := true, laidLooks := .later }
def ArithSoundUptoCardSaid : Prop := Claim7.holds Tryz.pinned (.plain (OpenSpec.upto arithSoundSpec)) arithSoundUptoCard
end Rows
end Go.Proofs.YtkfbjnikkmoanaaGreatDoor
