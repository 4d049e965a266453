/-
  No cell of these rows narrows 'for every input' (looked for: loops, veiled, ifaces, maps, wideKeys, modest, calm, conditions, laid).
  DERIVED. THE GIVEN ROWS OF THIS SEAT. 5 by the template 'for every input the law returns true; each argument reads behind the call as it read before'; 0 by the template 'total and deterministic' (their statements: YtobednfbejcaeaaTotals.lean).
  GIVEN WITH THE SEED: the statements are not yours to turn. If you find one false, say at which input.
  Laid BY PROGRAM, IN A SANDBOX (cutbox-rows.mjs): the forced cells as the released guide's own fill.sh prints them over the translation 481fd1693ae34d5e… (all of the seat's roots in one cut). By AI agents, Wed Nov 11 2026. No macro, syntax, notation, axiom, sorry.
-/
import Derived.Test.YtobednfbejcaeaaChecked
import GoSem.Claim
import GoSem.ClaimJoined
import GoSem.ClaimMapViews
import Derived.JoinedTies
import Derived.KernelRfl
namespace Go.Proofs.Ytobednfbejcaeaa
/- THE CELL 'sum', in the pinned program and in every row, IS THE sha256 OF THE DUMP (.gsa) THAT YtobednfbejcaeaaProg.lean LOADS. Nothing in Lean hashes anything: it is a label: what it is worth is what the hold of that sum in a sandbox is worth. -/
noncomputable def Try.pinned : Pinned := { name := "ytobednfbejcaeaa", sum := "481fd1693ae34d5e06df67e349e36647b10c2a5dc0956de8092a983ee4437750", checked := Try.checked }
namespace Rows
def none {H : Type} : Left H := { results := [], args := [] }

/-- 'hatchwaylaw19.ScalarSmall': WHATEVER THE INPUT: true; the input reads as it did. -/
def scalarSmallSpec : ChangeSpec := { name := "scalarSmall", fn := fun _ => fun
  | [] => { results := [.lit (.bool true)], args := [] }
  | _ => none }
def scalarSmallRow : OpenClaim := { program := "ytobednfbejcaeaa", sum := "481fd1693ae34d5e06df67e349e36647b10c2a5dc0956de8092a983ee4437750", func := "hatchway/hatchwaylaw19.ScalarSmall", spec := "scalarSmall", unfollowed := true, recurses := true, apart := false }
def ScalarSmallSaid : Prop := scalarSmallRow.holds Try.pinned (OpenSpec.ofChange scalarSmallSpec)

/-- ITS FALSE NEIGHBOUR: 'it returns false'. Refute it at one input. -/
def scalarSmallWrong : ChangeSpec := { name := "scalarSmall", fn := fun _ => fun
  | [] => { results := [.lit (.bool false)], args := [] }
  | _ => none }
def ScalarSmallWrongFalsely : Prop := scalarSmallRow.holds Try.pinned (OpenSpec.ofChange scalarSmallWrong)

/-- 'hatchwaylaw19.ScalarJoins': WHATEVER THE INPUT: true; the input reads as it did. -/
def scalarJoinsSpec : ChangeSpec := { name := "scalarJoins", fn := fun _ => fun
  | [d] => { results := [.lit (.bool true)], args := [d] }
  | _ => none }
def scalarJoinsRow : OpenClaim := { program := "ytobednfbejcaeaa", sum := "481fd1693ae34d5e06df67e349e36647b10c2a5dc0956de8092a983ee4437750", func := "hatchway/hatchwaylaw19.ScalarJoins", spec := "scalarJoins", unfollowed := true, recurses := true, apart := false }
def ScalarJoinsSaid : Prop := scalarJoinsRow.holds Try.pinned (OpenSpec.ofChange scalarJoinsSpec)

/-- ITS FALSE NEIGHBOUR: 'it returns false'. Refute it at one input. -/
def scalarJoinsWrong : ChangeSpec := { name := "scalarJoins", fn := fun _ => fun
  | [d] => { results := [.lit (.bool false)], args := [d] }
  | _ => none }
def ScalarJoinsWrongFalsely : Prop := scalarJoinsRow.holds Try.pinned (OpenSpec.ofChange scalarJoinsWrong)

/-- 'hatchwaylaw19.ScalarTells': WHATEVER THE INPUT: true; the input reads as it did. -/
def scalarTellsSpec : ChangeSpec := { name := "scalarTells", fn := fun _ => fun
  | [d1, d2, d3, d4, d5, d6, d7] => { results := [.lit (.bool true)], args := [d1, d2, d3, d4, d5, d6, d7] }
  | _ => none }
def scalarTellsRow : OpenClaim := { program := "ytobednfbejcaeaa", sum := "481fd1693ae34d5e06df67e349e36647b10c2a5dc0956de8092a983ee4437750", func := "hatchway/hatchwaylaw19.ScalarTells", spec := "scalarTells", unfollowed := true, recurses := true, apart := false }
def ScalarTellsSaid : Prop := scalarTellsRow.holds Try.pinned (OpenSpec.ofChange scalarTellsSpec)

/-- ITS FALSE NEIGHBOUR: 'it returns false'. Refute it at one input. -/
def scalarTellsWrong : ChangeSpec := { name := "scalarTells", fn := fun _ => fun
  | [d1, d2, d3, d4, d5, d6, d7] => { results := [.lit (.bool false)], args := [d1, d2, d3, d4, d5, d6, d7] }
  | _ => none }
def ScalarTellsWrongFalsely : Prop := scalarTellsRow.holds Try.pinned (OpenSpec.ofChange scalarTellsWrong)

/-- 'hatchwaylaw19.ScalarOrder': WHATEVER THE INPUT: true; the input reads as it did. -/
def scalarOrderSpec : ChangeSpec := { name := "scalarOrder", fn := fun _ => fun
  | [d1, d2, d3, d4] => { results := [.lit (.bool true)], args := [d1, d2, d3, d4] }
  | _ => none }
def scalarOrderRow : OpenClaim := { program := "ytobednfbejcaeaa", sum := "481fd1693ae34d5e06df67e349e36647b10c2a5dc0956de8092a983ee4437750", func := "hatchway/hatchwaylaw19.ScalarOrder", spec := "scalarOrder", unfollowed := true, recurses := true, apart := false }
def ScalarOrderSaid : Prop := scalarOrderRow.holds Try.pinned (OpenSpec.ofChange scalarOrderSpec)

/-- ITS FALSE NEIGHBOUR: 'it returns false'. Refute it at one input. -/
def scalarOrderWrong : ChangeSpec := { name := "scalarOrder", fn := fun _ => fun
  | [d1, d2, d3, d4] => { results := [.lit (.bool false)], args := [d1, d2, d3, d4] }
  | _ => none }
def ScalarOrderWrongFalsely : Prop := scalarOrderRow.holds Try.pinned (OpenSpec.ofChange scalarOrderWrong)

/-- 'hatchwaylaw19.ScalarSound': WHATEVER THE INPUT: true; the input reads as it did. -/
def scalarSoundSpec : ChangeSpec := { name := "scalarSound", fn := fun _ => fun
  | [d1, d2, d3, d4, d5, d6, d7] => { results := [.lit (.bool true)], args := [d1, d2, d3, d4, d5, d6, d7] }
  | _ => none }
def scalarSoundRow : OpenClaim := { program := "ytobednfbejcaeaa", sum := "481fd1693ae34d5e06df67e349e36647b10c2a5dc0956de8092a983ee4437750", func := "hatchway/hatchwaylaw19.ScalarSound", spec := "scalarSound", unfollowed := true, recurses := true, apart := false }
def ScalarSoundSaid : Prop := scalarSoundRow.holds Try.pinned (OpenSpec.ofChange scalarSoundSpec)

/-- ITS FALSE NEIGHBOUR: 'it returns false'. Refute it at one input. -/
def scalarSoundWrong : ChangeSpec := { name := "scalarSound", fn := fun _ => fun
  | [d1, d2, d3, d4, d5, d6, d7] => { results := [.lit (.bool false)], args := [d1, d2, d3, d4, d5, d6, d7] }
  | _ => none }
def ScalarSoundWrongFalsely : Prop := scalarSoundRow.holds Try.pinned (OpenSpec.ofChange scalarSoundWrong)

/- THE SECOND FORM. 'bulk': how many values and letters a reading holds, each counted each time it is reached (what is shared counts as often as it is met; a slice's spare places count too). A statement '..UptoSaid' is the law's where the arguments, and the package variables that the reading takes, are together of bulk at most 1048576: NARROWER than '..Said'. Prove '..Said' where nothing that the law and all that it calls make is longer than what came in: it says more and counts as full. Else prove '..UptoSaid'. A law counts once. -/
mutual
def uptoBulk {H : Type} : DataW H → Nat
  | .lit (.string bytes) => bytes.length + 1
  | .lit _ => 1
  | .nil => 1
  | .ptr d => uptoBulk d + 1
  | .slice elems spare => uptoBulkAll elems + uptoBulkAll spare + 1
  | .agg parts => uptoBulkAll parts + 1
  | .iface _ d => uptoBulk d + 1
  | .map entries => uptoBulkEntries entries + 1
  | .held _ => 1
def uptoBulkAll {H : Type} : List (DataW H) → Nat
  | [] => 0
  | d :: r => uptoBulk d + uptoBulkAll r
def uptoBulkEntries {H : Type} : List (Lit × DataW H) → Nat
  | [] => 0
  | x :: r => uptoBulkEntry x + uptoBulkEntries r
def uptoBulkEntry {H : Type} : Lit × DataW H → Nat
  | (.string bytes, d) => bytes.length + uptoBulk d + 1
  | (_, d) => uptoBulk d + 1
 end
def uptoSmall : (H : Type) → List (DataW H) → Bool := fun _ ds => decide (uptoBulkAll ds ≤ 1048576)
def OpenSpec.upto (s : _root_.Go.ChangeSpec) : _root_.Go.OpenSpec := { _root_.Go.OpenSpec.ofChange s with cond := some uptoSmall }

/-- 'hatchwaylaw19.ScalarSmall', WHERE WHAT IT READS IS OF BULK AT MOST 1048576: true; the input reads as it did. -/
def scalarSmallUptoRow : OpenClaim := { program := "ytobednfbejcaeaa", sum := "481fd1693ae34d5e06df67e349e36647b10c2a5dc0956de8092a983ee4437750", func := "hatchway/hatchwaylaw19.ScalarSmall", spec := "scalarSmall", unfollowed := true, recurses := true, apart := false, narrowed := true }
def ScalarSmallUptoSaid : Prop := scalarSmallUptoRow.holds Try.pinned (OpenSpec.upto scalarSmallSpec)

/-- 'hatchwaylaw19.ScalarJoins', WHERE WHAT IT READS IS OF BULK AT MOST 1048576: true; the input reads as it did. -/
def scalarJoinsUptoRow : OpenClaim := { program := "ytobednfbejcaeaa", sum := "481fd1693ae34d5e06df67e349e36647b10c2a5dc0956de8092a983ee4437750", func := "hatchway/hatchwaylaw19.ScalarJoins", spec := "scalarJoins", unfollowed := true, recurses := true, apart := false, narrowed := true }
def ScalarJoinsUptoSaid : Prop := scalarJoinsUptoRow.holds Try.pinned (OpenSpec.upto scalarJoinsSpec)

/-- 'hatchwaylaw19.ScalarTells', WHERE WHAT IT READS IS OF BULK AT MOST 1048576: true; the input reads as it did. -/
def scalarTellsUptoRow : OpenClaim := { program := "ytobednfbejcaeaa", sum := "481fd1693ae34d5e06df67e349e36647b10c2a5dc0956de8092a983ee4437750", func := "hatchway/hatchwaylaw19.ScalarTells", spec := "scalarTells", unfollowed := true, recurses := true, apart := false, narrowed := true }
def ScalarTellsUptoSaid : Prop := scalarTellsUptoRow.holds Try.pinned (OpenSpec.upto scalarTellsSpec)

/-- 'hatchwaylaw19.ScalarOrder', WHERE WHAT IT READS IS OF BULK AT MOST 1048576: true; the input reads as it did. -/
def scalarOrderUptoRow : OpenClaim := { program := "ytobednfbejcaeaa", sum := "481fd1693ae34d5e06df67e349e36647b10c2a5dc0956de8092a983ee4437750", func := "hatchway/hatchwaylaw19.ScalarOrder", spec := "scalarOrder", unfollowed := true, recurses := true, apart := false, narrowed := true }
def ScalarOrderUptoSaid : Prop := scalarOrderUptoRow.holds Try.pinned (OpenSpec.upto scalarOrderSpec)

/-- 'hatchwaylaw19.ScalarSound', WHERE WHAT IT READS IS OF BULK AT MOST 1048576: true; the input reads as it did. -/
def scalarSoundUptoRow : OpenClaim := { program := "ytobednfbejcaeaa", sum := "481fd1693ae34d5e06df67e349e36647b10c2a5dc0956de8092a983ee4437750", func := "hatchway/hatchwaylaw19.ScalarSound", spec := "scalarSound", unfollowed := true, recurses := true, apart := false, narrowed := true }
def ScalarSoundUptoSaid : Prop := scalarSoundUptoRow.holds Try.pinned (OpenSpec.upto scalarSoundSpec)

end Rows
end Go.Proofs.Ytobednfbejcaeaa
