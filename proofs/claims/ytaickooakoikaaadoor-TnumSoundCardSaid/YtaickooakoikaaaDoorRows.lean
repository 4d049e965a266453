/-
  NARROWER THAN 'FOR EVERY INPUT', by the rows' own cells (each row's printed sentence says how): TnumJoins: laid · TnumLeast: laid · TnumRange: laid · TnumOrder: laid · TnumTells: laid · TnumSound: laid.
  DERIVED. THE GIVEN ROWS OF THIS SEAT. 6 by the template 'for every input the law returns true; each argument reads behind the call as it read before'; 0 by the template 'total and deterministic' (their statements: YtaickooakoikaaaDoorTotals.lean).
  GIVEN WITH THE SEED: the statements are not yours to turn. If you find one false, say at which input.
  Laid BY PROGRAM, IN A SANDBOX (cutbox-rows.mjs): the forced cells as the released guide's own fill.sh prints them over the translation 2531efac296b99c1… (all of the seat's roots in one cut). By AI agents, Wed Nov 11 2026. No macro, syntax, notation, axiom, sorry.
-/
import Derived.Test.YtaickooakoikaaaDoorChecked
import GoSem.Claim
import GoSem.ClaimJoined
import GoSem.ClaimMapViews
import Derived.JoinedTies
import Derived.KernelRfl
namespace Go.Proofs.YtaickooakoikaaaDoor
/- THE CELL 'sum', in the pinned program and in every row, IS THE sha256 OF THE DUMP (.gsa) THAT YtaickooakoikaaaDoorProg.lean LOADS. Nothing in Lean hashes anything: it is a label: what it is worth is what the hold of that sum in a sandbox is worth. -/
noncomputable def Tryd.pinned : Pinned := { name := "ytaickooakoikaaadoor", sum := "2531efac296b99c1c7c6ee2a7180f4b57c43d2ef203492ce7bbcea08c2ea1502", checked := Tryd.checked }
namespace Rows
def none {H : Type} : Left H := { results := [], args := [] }

/- WHAT THE LISTED PACKAGE-LEVEL VARIABLES READ AS WHEN THE CALL BEGINS. Each datum BY PROGRAM (the guide's laid-datum.mjs) off the statement by which the dump's own 'gosem.cut.vars' lays the variable. In a bare row this is a premise. The card (YtaickooakoikaaaDoorCards.lean) ties it to the program's text. -/
def laid_math_bits_deBruijn64tab {H : Type} : DataW H := .agg [.lit (.int .u8 0), .lit (.int .u8 1), .lit (.int .u8 56), .lit (.int .u8 2), .lit (.int .u8 57), .lit (.int .u8 49), .lit (.int .u8 28), .lit (.int .u8 3), .lit (.int .u8 61), .lit (.int .u8 58), .lit (.int .u8 42), .lit (.int .u8 50), .lit (.int .u8 38), .lit (.int .u8 29), .lit (.int .u8 17), .lit (.int .u8 4), .lit (.int .u8 62), .lit (.int .u8 47), .lit (.int .u8 59), .lit (.int .u8 36), .lit (.int .u8 45), .lit (.int .u8 43), .lit (.int .u8 51), .lit (.int .u8 22), .lit (.int .u8 53), .lit (.int .u8 39), .lit (.int .u8 33), .lit (.int .u8 30), .lit (.int .u8 24), .lit (.int .u8 18), .lit (.int .u8 12), .lit (.int .u8 5), .lit (.int .u8 63), .lit (.int .u8 55), .lit (.int .u8 48), .lit (.int .u8 27), .lit (.int .u8 60), .lit (.int .u8 41), .lit (.int .u8 37), .lit (.int .u8 16), .lit (.int .u8 46), .lit (.int .u8 35), .lit (.int .u8 44), .lit (.int .u8 21), .lit (.int .u8 52), .lit (.int .u8 32), .lit (.int .u8 23), .lit (.int .u8 11), .lit (.int .u8 54), .lit (.int .u8 26), .lit (.int .u8 40), .lit (.int .u8 15), .lit (.int .u8 34), .lit (.int .u8 20), .lit (.int .u8 31), .lit (.int .u8 10), .lit (.int .u8 25), .lit (.int .u8 14), .lit (.int .u8 19), .lit (.int .u8 9), .lit (.int .u8 13), .lit (.int .u8 8), .lit (.int .u8 7), .lit (.int .u8 6)]

/-- 'hatchwaylaw17.TnumJoins': WHATEVER THE INPUT: true; the input reads as it did. -/
def tnumJoinsSpec : ChangeSpec := { name := "tnumJoins", fn := fun _ => fun
  | [d] => { results := [.lit (.bool true)], args := [d] }
  | _ => none }
def tnumJoinsRow : OpenClaim := { program := "ytaickooakoikaaadoor", sum := "2531efac296b99c1c7c6ee2a7180f4b57c43d2ef203492ce7bbcea08c2ea1502", func := "hatchway/hatchwaylaw17.TnumJoins", spec := "tnumJoins", unfollowed := true, recurses := true, named := ["math/bits.deBruijn64tab"], plainKeys := false, apart := false, laid := [("math/bits.deBruijn64tab", laid_math_bits_deBruijn64tab)] }
def TnumJoinsSaid : Prop := tnumJoinsRow.holds Tryd.pinned (OpenSpec.ofChange tnumJoinsSpec)

/-- ITS FALSE NEIGHBOUR: 'it returns false'. Refute it at one input. -/
def tnumJoinsWrong : ChangeSpec := { name := "tnumJoins", fn := fun _ => fun
  | [d] => { results := [.lit (.bool false)], args := [d] }
  | _ => none }
def TnumJoinsWrongFalsely : Prop := tnumJoinsRow.holds Tryd.pinned (OpenSpec.ofChange tnumJoinsWrong)

/-- 'hatchwaylaw17.TnumLeast': WHATEVER THE INPUT: true; the input reads as it did. -/
def tnumLeastSpec : ChangeSpec := { name := "tnumLeast", fn := fun _ => fun
  | [] => { results := [.lit (.bool true)], args := [] }
  | _ => none }
def tnumLeastRow : OpenClaim := { program := "ytaickooakoikaaadoor", sum := "2531efac296b99c1c7c6ee2a7180f4b57c43d2ef203492ce7bbcea08c2ea1502", func := "hatchway/hatchwaylaw17.TnumLeast", spec := "tnumLeast", unfollowed := true, recurses := true, named := ["math/bits.deBruijn64tab"], plainKeys := false, apart := false, laid := [("math/bits.deBruijn64tab", laid_math_bits_deBruijn64tab)] }
def TnumLeastSaid : Prop := tnumLeastRow.holds Tryd.pinned (OpenSpec.ofChange tnumLeastSpec)

/-- ITS FALSE NEIGHBOUR: 'it returns false'. Refute it at one input. -/
def tnumLeastWrong : ChangeSpec := { name := "tnumLeast", fn := fun _ => fun
  | [] => { results := [.lit (.bool false)], args := [] }
  | _ => none }
def TnumLeastWrongFalsely : Prop := tnumLeastRow.holds Tryd.pinned (OpenSpec.ofChange tnumLeastWrong)

/-- 'hatchwaylaw17.TnumRange': WHATEVER THE INPUT: true; the input reads as it did. -/
def tnumRangeSpec : ChangeSpec := { name := "tnumRange", fn := fun _ => fun
  | [d1, d2, d3, d4, d5] => { results := [.lit (.bool true)], args := [d1, d2, d3, d4, d5] }
  | _ => none }
def tnumRangeRow : OpenClaim := { program := "ytaickooakoikaaadoor", sum := "2531efac296b99c1c7c6ee2a7180f4b57c43d2ef203492ce7bbcea08c2ea1502", func := "hatchway/hatchwaylaw17.TnumRange", spec := "tnumRange", unfollowed := true, recurses := true, named := ["math/bits.deBruijn64tab"], plainKeys := false, apart := false, laid := [("math/bits.deBruijn64tab", laid_math_bits_deBruijn64tab)] }
def TnumRangeSaid : Prop := tnumRangeRow.holds Tryd.pinned (OpenSpec.ofChange tnumRangeSpec)

/-- ITS FALSE NEIGHBOUR: 'it returns false'. Refute it at one input. -/
def tnumRangeWrong : ChangeSpec := { name := "tnumRange", fn := fun _ => fun
  | [d1, d2, d3, d4, d5] => { results := [.lit (.bool false)], args := [d1, d2, d3, d4, d5] }
  | _ => none }
def TnumRangeWrongFalsely : Prop := tnumRangeRow.holds Tryd.pinned (OpenSpec.ofChange tnumRangeWrong)

/-- 'hatchwaylaw17.TnumOrder': WHATEVER THE INPUT: true; the input reads as it did. -/
def tnumOrderSpec : ChangeSpec := { name := "tnumOrder", fn := fun _ => fun
  | [d1, d2, d3, d4, d5, d6, d7] => { results := [.lit (.bool true)], args := [d1, d2, d3, d4, d5, d6, d7] }
  | _ => none }
def tnumOrderRow : OpenClaim := { program := "ytaickooakoikaaadoor", sum := "2531efac296b99c1c7c6ee2a7180f4b57c43d2ef203492ce7bbcea08c2ea1502", func := "hatchway/hatchwaylaw17.TnumOrder", spec := "tnumOrder", unfollowed := true, recurses := true, named := ["math/bits.deBruijn64tab"], plainKeys := false, apart := false, laid := [("math/bits.deBruijn64tab", laid_math_bits_deBruijn64tab)] }
def TnumOrderSaid : Prop := tnumOrderRow.holds Tryd.pinned (OpenSpec.ofChange tnumOrderSpec)

/-- ITS FALSE NEIGHBOUR: 'it returns false'. Refute it at one input. -/
def tnumOrderWrong : ChangeSpec := { name := "tnumOrder", fn := fun _ => fun
  | [d1, d2, d3, d4, d5, d6, d7] => { results := [.lit (.bool false)], args := [d1, d2, d3, d4, d5, d6, d7] }
  | _ => none }
def TnumOrderWrongFalsely : Prop := tnumOrderRow.holds Tryd.pinned (OpenSpec.ofChange tnumOrderWrong)

/-- 'hatchwaylaw17.TnumTells': WHATEVER THE INPUT: true; the input reads as it did. -/
def tnumTellsSpec : ChangeSpec := { name := "tnumTells", fn := fun _ => fun
  | [d1, d2, d3, d4, d5, d6] => { results := [.lit (.bool true)], args := [d1, d2, d3, d4, d5, d6] }
  | _ => none }
def tnumTellsRow : OpenClaim := { program := "ytaickooakoikaaadoor", sum := "2531efac296b99c1c7c6ee2a7180f4b57c43d2ef203492ce7bbcea08c2ea1502", func := "hatchway/hatchwaylaw17.TnumTells", spec := "tnumTells", unfollowed := true, recurses := true, named := ["math/bits.deBruijn64tab"], plainKeys := false, apart := false, laid := [("math/bits.deBruijn64tab", laid_math_bits_deBruijn64tab)] }
def TnumTellsSaid : Prop := tnumTellsRow.holds Tryd.pinned (OpenSpec.ofChange tnumTellsSpec)

/-- ITS FALSE NEIGHBOUR: 'it returns false'. Refute it at one input. -/
def tnumTellsWrong : ChangeSpec := { name := "tnumTells", fn := fun _ => fun
  | [d1, d2, d3, d4, d5, d6] => { results := [.lit (.bool false)], args := [d1, d2, d3, d4, d5, d6] }
  | _ => none }
def TnumTellsWrongFalsely : Prop := tnumTellsRow.holds Tryd.pinned (OpenSpec.ofChange tnumTellsWrong)

/-- 'hatchwaylaw17.TnumSound': WHATEVER THE INPUT: true; the input reads as it did. -/
def tnumSoundSpec : ChangeSpec := { name := "tnumSound", fn := fun _ => fun
  | [d1, d2, d3, d4, d5, d6, d7] => { results := [.lit (.bool true)], args := [d1, d2, d3, d4, d5, d6, d7] }
  | _ => none }
def tnumSoundRow : OpenClaim := { program := "ytaickooakoikaaadoor", sum := "2531efac296b99c1c7c6ee2a7180f4b57c43d2ef203492ce7bbcea08c2ea1502", func := "hatchway/hatchwaylaw17.TnumSound", spec := "tnumSound", unfollowed := true, recurses := true, named := ["math/bits.deBruijn64tab"], plainKeys := false, apart := false, laid := [("math/bits.deBruijn64tab", laid_math_bits_deBruijn64tab)] }
def TnumSoundSaid : Prop := tnumSoundRow.holds Tryd.pinned (OpenSpec.ofChange tnumSoundSpec)

/-- ITS FALSE NEIGHBOUR: 'it returns false'. Refute it at one input. -/
def tnumSoundWrong : ChangeSpec := { name := "tnumSound", fn := fun _ => fun
  | [d1, d2, d3, d4, d5, d6, d7] => { results := [.lit (.bool false)], args := [d1, d2, d3, d4, d5, d6, d7] }
  | _ => none }
def TnumSoundWrongFalsely : Prop := tnumSoundRow.holds Tryd.pinned (OpenSpec.ofChange tnumSoundWrong)

/- THE SECOND FORM. 'bulk': how many values and letters a reading holds, each counted each time it is reached (what is shared counts as often as it is met; a slice's spare places count too). A statement '..UptoSaid' is the law's where the arguments, and the package variables that the reading takes, are together of bulk at most 1048576: NARROWER than '..Said'. Prove '..Said' where nothing that the law and all that it calls make is longer than what came in: it says more and counts as full. Else prove '..UptoSaid'. A law counts once. -/
mutual
def uptoBulk {H : Type} : DataW H → Nat
  | .lit (.string bytes) => bytes.length + 1
  | .lit _ => 1
  | .nil => 1
  | .ptr d => uptoBulk d + 1
  | .slice elems spare => uptoBulkAll elems + uptoBulkAll spare + 1
  | .agg parts => uptoBulkAll parts + 1
  | .iface _ d => uptoBulk d + 1
  | .map entries => uptoBulkEntries entries + 1
  | .held _ => 1
def uptoBulkAll {H : Type} : List (DataW H) → Nat
  | [] => 0
  | d :: r => uptoBulk d + uptoBulkAll r
def uptoBulkEntries {H : Type} : List (Lit × DataW H) → Nat
  | [] => 0
  | x :: r => uptoBulkEntry x + uptoBulkEntries r
def uptoBulkEntry {H : Type} : Lit × DataW H → Nat
  | (.string bytes, d) => bytes.length + uptoBulk d + 1
  | (_, d) => uptoBulk d + 1
 end
def uptoSmall : (H : Type) → List (DataW H) → Bool := fun _ ds => decide (uptoBulkAll ds ≤ 1048576)
def OpenSpec.upto (s : _root_.Go.ChangeSpec) : _root_.Go.OpenSpec := { _root_.Go.OpenSpec.ofChange s with cond := some uptoSmall }

/-- 'hatchwaylaw17.TnumJoins', WHERE WHAT IT READS IS OF BULK AT MOST 1048576: true; the input reads as it did. -/
def tnumJoinsUptoRow : OpenClaim := { program := "ytaickooakoikaaadoor", sum := "2531efac296b99c1c7c6ee2a7180f4b57c43d2ef203492ce7bbcea08c2ea1502", func := "hatchway/hatchwaylaw17.TnumJoins", spec := "tnumJoins", unfollowed := true, recurses := true, named := ["math/bits.deBruijn64tab"], plainKeys := false, apart := false, laid := [("math/bits.deBruijn64tab", laid_math_bits_deBruijn64tab)], narrowed := true }
def TnumJoinsUptoSaid : Prop := tnumJoinsUptoRow.holds Tryd.pinned (OpenSpec.upto tnumJoinsSpec)

/-- 'hatchwaylaw17.TnumLeast', WHERE WHAT IT READS IS OF BULK AT MOST 1048576: true; the input reads as it did. -/
def tnumLeastUptoRow : OpenClaim := { program := "ytaickooakoikaaadoor", sum := "2531efac296b99c1c7c6ee2a7180f4b57c43d2ef203492ce7bbcea08c2ea1502", func := "hatchway/hatchwaylaw17.TnumLeast", spec := "tnumLeast", unfollowed := true, recurses := true, named := ["math/bits.deBruijn64tab"], plainKeys := false, apart := false, laid := [("math/bits.deBruijn64tab", laid_math_bits_deBruijn64tab)], narrowed := true }
def TnumLeastUptoSaid : Prop := tnumLeastUptoRow.holds Tryd.pinned (OpenSpec.upto tnumLeastSpec)

/-- 'hatchwaylaw17.TnumRange', WHERE WHAT IT READS IS OF BULK AT MOST 1048576: true; the input reads as it did. -/
def tnumRangeUptoRow : OpenClaim := { program := "ytaickooakoikaaadoor", sum := "2531efac296b99c1c7c6ee2a7180f4b57c43d2ef203492ce7bbcea08c2ea1502", func := "hatchway/hatchwaylaw17.TnumRange", spec := "tnumRange", unfollowed := true, recurses := true, named := ["math/bits.deBruijn64tab"], plainKeys := false, apart := false, laid := [("math/bits.deBruijn64tab", laid_math_bits_deBruijn64tab)], narrowed := true }
def TnumRangeUptoSaid : Prop := tnumRangeUptoRow.holds Tryd.pinned (OpenSpec.upto tnumRangeSpec)

/-- 'hatchwaylaw17.TnumOrder', WHERE WHAT IT READS IS OF BULK AT MOST 1048576: true; the input reads as it did. -/
def tnumOrderUptoRow : OpenClaim := { program := "ytaickooakoikaaadoor", sum := "2531efac296b99c1c7c6ee2a7180f4b57c43d2ef203492ce7bbcea08c2ea1502", func := "hatchway/hatchwaylaw17.TnumOrder", spec := "tnumOrder", unfollowed := true, recurses := true, named := ["math/bits.deBruijn64tab"], plainKeys := false, apart := false, laid := [("math/bits.deBruijn64tab", laid_math_bits_deBruijn64tab)], narrowed := true }
def TnumOrderUptoSaid : Prop := tnumOrderUptoRow.holds Tryd.pinned (OpenSpec.upto tnumOrderSpec)

/-- 'hatchwaylaw17.TnumTells', WHERE WHAT IT READS IS OF BULK AT MOST 1048576: true; the input reads as it did. -/
def tnumTellsUptoRow : OpenClaim := { program := "ytaickooakoikaaadoor", sum := "2531efac296b99c1c7c6ee2a7180f4b57c43d2ef203492ce7bbcea08c2ea1502", func := "hatchway/hatchwaylaw17.TnumTells", spec := "tnumTells", unfollowed := true, recurses := true, named := ["math/bits.deBruijn64tab"], plainKeys := false, apart := false, laid := [("math/bits.deBruijn64tab", laid_math_bits_deBruijn64tab)], narrowed := true }
def TnumTellsUptoSaid : Prop := tnumTellsUptoRow.holds Tryd.pinned (OpenSpec.upto tnumTellsSpec)

/-- 'hatchwaylaw17.TnumSound', WHERE WHAT IT READS IS OF BULK AT MOST 1048576: true; the input reads as it did. -/
def tnumSoundUptoRow : OpenClaim := { program := "ytaickooakoikaaadoor", sum := "2531efac296b99c1c7c6ee2a7180f4b57c43d2ef203492ce7bbcea08c2ea1502", func := "hatchway/hatchwaylaw17.TnumSound", spec := "tnumSound", unfollowed := true, recurses := true, named := ["math/bits.deBruijn64tab"], plainKeys := false, apart := false, laid := [("math/bits.deBruijn64tab", laid_math_bits_deBruijn64tab)], narrowed := true }
def TnumSoundUptoSaid : Prop := tnumSoundUptoRow.holds Tryd.pinned (OpenSpec.upto tnumSoundSpec)

end Rows
end Go.Proofs.YtaickooakoikaaaDoor
