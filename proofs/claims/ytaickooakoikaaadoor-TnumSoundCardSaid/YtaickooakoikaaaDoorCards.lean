/-
  DERIVED. GIVEN WITH THE SEED: THE CARDS: each row of YtaickooakoikaaaDoorRows.lean that lists a variable, with what it lists TIED to the program's text (the seventh form; the later family's looks); each row that meets fmt, with fmt's text TOLD by the authors' own Lean function (tested against real Go, not proved from fmt's source: count such statements apart). THE CARD IS WHAT COUNTS. Prove the row's statement (the work); the ties are given (YtaickooakoikaaaDoorTie.lean); close each card by the builder's one call (the guide's Derived/Test/ToyasCard.lean, 'card_holds'). Laid BY PROGRAM, IN A SANDBOX (cutbox-door.mjs). By AI agents, Wed Nov 11 2026. No macro, syntax, notation, axiom, sorry.
-/
import Derived.Test.YtaickooakoikaaaDoorRows
import GoSem.ClaimSeven
namespace Go.Proofs.YtaickooakoikaaaDoor
namespace Rows

/-- THE TIED CARD OF 'hatchwaylaw17.TnumJoins'. -/
def tnumJoinsCard : Claim7 := { stood := { row := tnumJoinsRow, standIns := [], harness := (true, "7fc815044e21ff8485bb2ff174b4c48ba1765e39cf5e5204d6dc3260d2ff86db"), looks := false }, kinds := [], alts := [], laidByText := true, laidKinds := [.data], laidTests := true, laidLooks := .later }
def TnumJoinsCardSaid : Prop := Claim7.holds Tryd.pinned (.plain (OpenSpec.ofChange tnumJoinsSpec)) tnumJoinsCard

/-- THE TIED CARD OF 'hatchwaylaw17.TnumLeast'. -/
def tnumLeastCard : Claim7 := { stood := { row := tnumLeastRow, standIns := [], harness := (true, "7fc815044e21ff8485bb2ff174b4c48ba1765e39cf5e5204d6dc3260d2ff86db"), looks := false }, kinds := [], alts := [], laidByText := true, laidKinds := [.data], laidTests := true, laidLooks := .later }
def TnumLeastCardSaid : Prop := Claim7.holds Tryd.pinned (.plain (OpenSpec.ofChange tnumLeastSpec)) tnumLeastCard

/-- THE TIED CARD OF 'hatchwaylaw17.TnumRange'. -/
def tnumRangeCard : Claim7 := { stood := { row := tnumRangeRow, standIns := [], harness := (true, "7fc815044e21ff8485bb2ff174b4c48ba1765e39cf5e5204d6dc3260d2ff86db"), looks := false }, kinds := [], alts := [], laidByText := true, laidKinds := [.data], laidTests := true, laidLooks := .later }
def TnumRangeCardSaid : Prop := Claim7.holds Tryd.pinned (.plain (OpenSpec.ofChange tnumRangeSpec)) tnumRangeCard

/-- THE TIED CARD OF 'hatchwaylaw17.TnumOrder'. -/
def tnumOrderCard : Claim7 := { stood := { row := tnumOrderRow, standIns := [], harness := (true, "7fc815044e21ff8485bb2ff174b4c48ba1765e39cf5e5204d6dc3260d2ff86db"), looks := false }, kinds := [], alts := [], laidByText := true, laidKinds := [.data], laidTests := true, laidLooks := .later }
def TnumOrderCardSaid : Prop := Claim7.holds Tryd.pinned (.plain (OpenSpec.ofChange tnumOrderSpec)) tnumOrderCard

/-- THE TIED CARD OF 'hatchwaylaw17.TnumTells'. -/
def tnumTellsCard : Claim7 := { stood := { row := tnumTellsRow, standIns := [], harness := (true, "7fc815044e21ff8485bb2ff174b4c48ba1765e39cf5e5204d6dc3260d2ff86db"), looks := false }, kinds := [], alts := [], laidByText := true, laidKinds := [.data], laidTests := true, laidLooks := .later }
def TnumTellsCardSaid : Prop := Claim7.holds Tryd.pinned (.plain (OpenSpec.ofChange tnumTellsSpec)) tnumTellsCard

/-- THE TIED CARD OF 'hatchwaylaw17.TnumSound'. -/
def tnumSoundCard : Claim7 := { stood := { row := tnumSoundRow, standIns := [], harness := (true, "7fc815044e21ff8485bb2ff174b4c48ba1765e39cf5e5204d6dc3260d2ff86db"), looks := false }, kinds := [], alts := [], laidByText := true, laidKinds := [.data], laidTests := true, laidLooks := .later }
def TnumSoundCardSaid : Prop := Claim7.holds Tryd.pinned (.plain (OpenSpec.ofChange tnumSoundSpec)) tnumSoundCard

/-- THE SECOND FORM's CARD OF 'hatchwaylaw17.TnumJoins'. -/
def tnumJoinsUptoCard : Claim7 := { stood := { row := tnumJoinsUptoRow, standIns := [], harness := (true, "7fc815044e21ff8485bb2ff174b4c48ba1765e39cf5e5204d6dc3260d2ff86db"), looks := false }, kinds := [], alts := [], laidByText := true, laidKinds := [.data], laidTests := true, laidLooks := .later }
def TnumJoinsUptoCardSaid : Prop := Claim7.holds Tryd.pinned (.plain (OpenSpec.upto tnumJoinsSpec)) tnumJoinsUptoCard

/-- THE SECOND FORM's CARD OF 'hatchwaylaw17.TnumLeast'. -/
def tnumLeastUptoCard : Claim7 := { stood := { row := tnumLeastUptoRow, standIns := [], harness := (true, "7fc815044e21ff8485bb2ff174b4c48ba1765e39cf5e5204d6dc3260d2ff86db"), looks := false }, kinds := [], alts := [], laidByText := true, laidKinds := [.data], laidTests := true, laidLooks := .later }
def TnumLeastUptoCardSaid : Prop := Claim7.holds Tryd.pinned (.plain (OpenSpec.upto tnumLeastSpec)) tnumLeastUptoCard

/-- THE SECOND FORM's CARD OF 'hatchwaylaw17.TnumRange'. -/
def tnumRangeUptoCard : Claim7 := { stood := { row := tnumRangeUptoRow, standIns := [], harness := (true, "7fc815044e21ff8485bb2ff174b4c48ba1765e39cf5e5204d6dc3260d2ff86db"), looks := false }, kinds := [], alts := [], laidByText := true, laidKinds := [.data], laidTests := true, laidLooks := .later }
def TnumRangeUptoCardSaid : Prop := Claim7.holds Tryd.pinned (.plain (OpenSpec.upto tnumRangeSpec)) tnumRangeUptoCard

/-- THE SECOND FORM's CARD OF 'hatchwaylaw17.TnumOrder'. -/
def tnumOrderUptoCard : Claim7 := { stood := { row := tnumOrderUptoRow, standIns := [], harness := (true, "7fc815044e21ff8485bb2ff174b4c48ba1765e39cf5e5204d6dc3260d2ff86db"), looks := false }, kinds := [], alts := [], laidByText := true, laidKinds := [.data], laidTests := true, laidLooks := .later }
def TnumOrderUptoCardSaid : Prop := Claim7.holds Tryd.pinned (.plain (OpenSpec.upto tnumOrderSpec)) tnumOrderUptoCard

/-- THE SECOND FORM's CARD OF 'hatchwaylaw17.TnumTells'. -/
def tnumTellsUptoCard : Claim7 := { stood := { row := tnumTellsUptoRow, standIns := [], harness := (true, "7fc815044e21ff8485bb2ff174b4c48ba1765e39cf5e5204d6dc3260d2ff86db"), looks := false }, kinds := [], alts := [], laidByText := true, laidKinds := [.data], laidTests := true, laidLooks := .later }
def TnumTellsUptoCardSaid : Prop := Claim7.holds Tryd.pinned (.plain (OpenSpec.upto tnumTellsSpec)) tnumTellsUptoCard

/-- THE SECOND FORM's CARD OF 'hatchwaylaw17.TnumSound'. -/
def tnumSoundUptoCard : Claim7 := { stood := { row := tnumSoundUptoRow, standIns := [], harness := (true, "7fc815044e21ff8485bb2ff174b4c48ba1765e39cf5e5204d6dc3260d2ff86db"), looks := false }, kinds := [], alts := [], laidByText := true, laidKinds := [.data], laidTests := true, laidLooks := .later }
def TnumSoundUptoCardSaid : Prop := Claim7.holds Tryd.pinned (.plain (OpenSpec.upto tnumSoundSpec)) tnumSoundUptoCard
end Rows
end Go.Proofs.YtaickooakoikaaaDoor
