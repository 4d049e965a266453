/-
  DERIVED. GIVEN WITH THE SEED: THE CARDS: each row of YtddcaklgflfkeaaGreatDoorRows.lean that lists a variable, with what it lists TIED to the program's text (the seventh form; the later family's looks); each row that meets fmt, with fmt's text TOLD by the authors' own Lean function (tested against real Go, not proved from fmt's source: count such statements apart). THE CARD IS WHAT COUNTS. Prove the row's statement (the work); the ties are given (YtddcaklgflfkeaaGreatDoorTie.lean); close each card by the builder's one call (the guide's Derived/Test/ToyasCard.lean, 'card_holds'). Laid BY PROGRAM, IN A SANDBOX (cutbox-door.mjs). By AI agents, Wed Nov 11 2026. No macro, syntax, notation, axiom, sorry.
-/
import Derived.Test.YtddcaklgflfkeaaGreatDoorRows
import GoSem.ClaimSeven
namespace Go.Proofs.YtddcaklgflfkeaaGreatDoor
namespace Rows

/-- THE TIED CARD OF 'hatchwaylaw22.ValueTwice'. -/
def valueTwiceCard : Claim7 := { stood := { row := valueTwiceRow, standIns := [], harness := (true, "f1453448a0f73f33d78137f6940523863ac3ce0c546595c375b33aee3ed9d130"), looks := false }, kinds := [], alts := [], laidByText := true, laidKinds := [.data], laidTests := true, laidLooks := .later }
def ValueTwiceCardSaid : Prop := Claim7.holds Tryz.pinned (.plain (OpenSpec.ofChange valueTwiceSpec)) valueTwiceCard

/-- THE TIED CARD OF 'hatchwaylaw22.ValueTouch'. -/
def valueTouchCard : Claim7 := { stood := { row := valueTouchRow, standIns := [], harness := (true, "f1453448a0f73f33d78137f6940523863ac3ce0c546595c375b33aee3ed9d130"), looks := false }, kinds := [], alts := [], laidByText := true, laidKinds := [.data], laidTests := true, laidLooks := .later }
def ValueTouchCardSaid : Prop := Claim7.holds Tryz.pinned (.plain (OpenSpec.ofChange valueTouchSpec)) valueTouchCard

/-- THE TIED CARD OF 'hatchwaylaw22.ValueAdds'. -/
def valueAddsCard : Claim7 := { stood := { row := valueAddsRow, standIns := [], harness := (true, "f1453448a0f73f33d78137f6940523863ac3ce0c546595c375b33aee3ed9d130"), looks := false }, kinds := [], alts := [], laidByText := true, laidKinds := [.data], laidTests := true, laidLooks := .later }
def ValueAddsCardSaid : Prop := Claim7.holds Tryz.pinned (.plain (OpenSpec.ofChange valueAddsSpec)) valueAddsCard

/-- THE TIED CARD OF 'hatchwaylaw22.ValueKinds'. -/
def valueKindsCard : Claim7 := { stood := { row := valueKindsRow, standIns := [], harness := (true, "f1453448a0f73f33d78137f6940523863ac3ce0c546595c375b33aee3ed9d130"), looks := false }, kinds := [], alts := [], laidByText := true, laidKinds := [.data], laidTests := true, laidLooks := .later }
def ValueKindsCardSaid : Prop := Claim7.holds Tryz.pinned (.plain (OpenSpec.ofChange valueKindsSpec)) valueKindsCard

/-- THE SECOND FORM's CARD OF 'hatchwaylaw22.ValueTwice'. -/
def valueTwiceUptoCard : Claim7 := { stood := { row := valueTwiceUptoRow, standIns := [], harness := (true, "f1453448a0f73f33d78137f6940523863ac3ce0c546595c375b33aee3ed9d130"), looks := false }, kinds := [], alts := [], laidByText := true, laidKinds := [.data], laidTests := true, laidLooks := .later }
def ValueTwiceUptoCardSaid : Prop := Claim7.holds Tryz.pinned (.plain (OpenSpec.upto valueTwiceSpec)) valueTwiceUptoCard

/-- THE SECOND FORM's CARD OF 'hatchwaylaw22.ValueTouch'. -/
def valueTouchUptoCard : Claim7 := { stood := { row := valueTouchUptoRow, standIns := [], harness := (true, "f1453448a0f73f33d78137f6940523863ac3ce0c546595c375b33aee3ed9d130"), looks := false }, kinds := [], alts := [], laidByText := true, laidKinds := [.data], laidTests := true, laidLooks := .later }
def ValueTouchUptoCardSaid : Prop := Claim7.holds Tryz.pinned (.plain (OpenSpec.upto valueTouchSpec)) valueTouchUptoCard

/-- THE SECOND FORM's CARD OF 'hatchwaylaw22.ValueAdds'. -/
def valueAddsUptoCard : Claim7 := { stood := { row := valueAddsUptoRow, standIns := [], harness := (true, "f1453448a0f73f33d78137f6940523863ac3ce0c546595c375b33aee3ed9d130"), looks := false }, kinds := [], alts := [], laidByText := true, laidKinds := [.data], laidTests := true, laidLooks := .later }
def ValueAddsUptoCardSaid : Prop := Claim7.holds Tryz.pinned (.plain (OpenSpec.upto valueAddsSpec)) valueAddsUptoCard

/-- THE SECOND FORM's CARD OF 'hatchwaylaw22.ValueKinds'. -/
def valueKindsUptoCard : Claim7 := { stood := { row := valueKindsUptoRow, standIns := [], harness := (true, "f1453448a0f73f33d78137f6940523863ac3ce0c546595c375b33aee3ed9d130"), looks := false }, kinds := [], alts := [], laidByText := true, laidKinds := [.data], laidTests := true, laidLooks := .later }
def ValueKindsUptoCardSaid : Prop := Claim7.holds Tryz.pinned (.plain (OpenSpec.upto valueKindsSpec)) valueKindsUptoCard
end Rows
end Go.Proofs.YtddcaklgflfkeaaGreatDoor
