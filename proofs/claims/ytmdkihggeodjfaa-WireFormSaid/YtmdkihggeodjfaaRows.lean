/-
  NARROWER THAN 'FOR EVERY INPUT', by the rows' own cells (each row's printed sentence says how): WireRows: loops · WireTrees: loops · WireForm: loops.
  DERIVED. THE GIVEN ROWS OF THIS SEAT. 4 by the template 'for every input the law returns true; each argument reads behind the call as it read before'; 0 by the template 'total and deterministic' (their statements: YtmdkihggeodjfaaTotals.lean).
  GIVEN WITH THE SEED: the statements are not yours to turn. If you find one false, say at which input.
  Laid BY PROGRAM, IN A SANDBOX (cutbox-rows.mjs): the forced cells as the released guide's own fill.sh prints them over the translation b9e93c05548a61f3… (all of the seat's roots in one cut). By AI agents, Wed Nov 11 2026. No macro, syntax, notation, axiom, sorry.
-/
import Derived.Test.YtmdkihggeodjfaaChecked
import GoSem.Claim
import GoSem.ClaimJoined
import GoSem.ClaimMapViews
import Derived.JoinedTies
import Derived.KernelRfl
namespace Go.Proofs.Ytmdkihggeodjfaa
/- THE CELL 'sum', in the pinned program and in every row, IS THE sha256 OF THE DUMP (.gsa) THAT YtmdkihggeodjfaaProg.lean LOADS. Nothing in Lean hashes anything: it is a label: what it is worth is what the hold of that sum in a sandbox is worth. -/
noncomputable def Try.pinned : Pinned := { name := "ytmdkihggeodjfaa", sum := "b9e93c05548a61f3712686ea06e58934586019edd303e327d8dfeaeb9fe6a5d9", checked := Try.checked }
namespace Rows
def none {H : Type} : Left H := { results := [], args := [] }

/-- 'hatchwaylaw05.WireRows': WHATEVER THE INPUT: true; the input reads as it did. -/
def wireRowsSpec : ChangeSpec := { name := "wireRows", fn := fun _ => fun
  | [d1, d2] => { results := [.lit (.bool true)], args := [d1, d2] }
  | _ => none }
def wireRowsRow : OpenClaim := { program := "ytmdkihggeodjfaa", sum := "b9e93c05548a61f3712686ea06e58934586019edd303e327d8dfeaeb9fe6a5d9", func := "hatchway/hatchwaylaw05.WireRows", spec := "wireRows", unfollowed := true, recurses := true, loops := true, apart := false }
def WireRowsSaid : Prop := wireRowsRow.holds Try.pinned (OpenSpec.ofChange wireRowsSpec)

/-- ITS FALSE NEIGHBOUR: 'it returns false'. Refute it at one input. -/
def wireRowsWrong : ChangeSpec := { name := "wireRows", fn := fun _ => fun
  | [d1, d2] => { results := [.lit (.bool false)], args := [d1, d2] }
  | _ => none }
def WireRowsWrongFalsely : Prop := wireRowsRow.holds Try.pinned (OpenSpec.ofChange wireRowsWrong)

/-- 'hatchwaylaw05.WireTrees': WHATEVER THE INPUT: true; the input reads as it did. -/
def wireTreesSpec : ChangeSpec := { name := "wireTrees", fn := fun _ => fun
  | [d] => { results := [.lit (.bool true)], args := [d] }
  | _ => none }
def wireTreesRow : OpenClaim := { program := "ytmdkihggeodjfaa", sum := "b9e93c05548a61f3712686ea06e58934586019edd303e327d8dfeaeb9fe6a5d9", func := "hatchway/hatchwaylaw05.WireTrees", spec := "wireTrees", unfollowed := true, recurses := true, loops := true, apart := false }
def WireTreesSaid : Prop := wireTreesRow.holds Try.pinned (OpenSpec.ofChange wireTreesSpec)

/-- ITS FALSE NEIGHBOUR: 'it returns false'. Refute it at one input. -/
def wireTreesWrong : ChangeSpec := { name := "wireTrees", fn := fun _ => fun
  | [d] => { results := [.lit (.bool false)], args := [d] }
  | _ => none }
def WireTreesWrongFalsely : Prop := wireTreesRow.holds Try.pinned (OpenSpec.ofChange wireTreesWrong)

/-- 'hatchwaylaw05.WireOrder': WHATEVER THE INPUT: true; the input reads as it did. -/
def wireOrderSpec : ChangeSpec := { name := "wireOrder", fn := fun _ => fun
  | [d1, d2] => { results := [.lit (.bool true)], args := [d1, d2] }
  | _ => none }
def wireOrderRow : OpenClaim := { program := "ytmdkihggeodjfaa", sum := "b9e93c05548a61f3712686ea06e58934586019edd303e327d8dfeaeb9fe6a5d9", func := "hatchway/hatchwaylaw05.WireOrder", spec := "wireOrder", unfollowed := true, recurses := true, apart := false }
def WireOrderSaid : Prop := wireOrderRow.holds Try.pinned (OpenSpec.ofChange wireOrderSpec)

/-- ITS FALSE NEIGHBOUR: 'it returns false'. Refute it at one input. -/
def wireOrderWrong : ChangeSpec := { name := "wireOrder", fn := fun _ => fun
  | [d1, d2] => { results := [.lit (.bool false)], args := [d1, d2] }
  | _ => none }
def WireOrderWrongFalsely : Prop := wireOrderRow.holds Try.pinned (OpenSpec.ofChange wireOrderWrong)

/-- 'hatchwaylaw05.WireForm': WHATEVER THE INPUT: true; the input reads as it did. -/
def wireFormSpec : ChangeSpec := { name := "wireForm", fn := fun _ => fun
  | [d1, d2, d3] => { results := [.lit (.bool true)], args := [d1, d2, d3] }
  | _ => none }
def wireFormRow : OpenClaim := { program := "ytmdkihggeodjfaa", sum := "b9e93c05548a61f3712686ea06e58934586019edd303e327d8dfeaeb9fe6a5d9", func := "hatchway/hatchwaylaw05.WireForm", spec := "wireForm", unfollowed := true, recurses := true, loops := true, apart := false }
def WireFormSaid : Prop := wireFormRow.holds Try.pinned (OpenSpec.ofChange wireFormSpec)

/-- ITS FALSE NEIGHBOUR: 'it returns false'. Refute it at one input. -/
def wireFormWrong : ChangeSpec := { name := "wireForm", fn := fun _ => fun
  | [d1, d2, d3] => { results := [.lit (.bool false)], args := [d1, d2, d3] }
  | _ => none }
def WireFormWrongFalsely : Prop := wireFormRow.holds Try.pinned (OpenSpec.ofChange wireFormWrong)

/- THE SECOND FORM. 'bulk': how many values and letters a reading holds, each counted each time it is reached (what is shared counts as often as it is met; a slice's spare places count too). A statement '..UptoSaid' is the law's where the arguments, and the package variables that the reading takes, are together of bulk at most 1048576: NARROWER than '..Said'. Prove '..Said' where nothing that the law and all that it calls make is longer than what came in: it says more and counts as full. Else prove '..UptoSaid'. A law counts once. -/
mutual
def uptoBulk {H : Type} : DataW H → Nat
  | .lit (.string bytes) => bytes.length + 1
  | .lit _ => 1
  | .nil => 1
  | .ptr d => uptoBulk d + 1
  | .slice elems spare => uptoBulkAll elems + uptoBulkAll spare + 1
  | .agg parts => uptoBulkAll parts + 1
  | .iface _ d => uptoBulk d + 1
  | .map entries => uptoBulkEntries entries + 1
  | .held _ => 1
def uptoBulkAll {H : Type} : List (DataW H) → Nat
  | [] => 0
  | d :: r => uptoBulk d + uptoBulkAll r
def uptoBulkEntries {H : Type} : List (Lit × DataW H) → Nat
  | [] => 0
  | x :: r => uptoBulkEntry x + uptoBulkEntries r
def uptoBulkEntry {H : Type} : Lit × DataW H → Nat
  | (.string bytes, d) => bytes.length + uptoBulk d + 1
  | (_, d) => uptoBulk d + 1
 end
def uptoSmall : (H : Type) → List (DataW H) → Bool := fun _ ds => decide (uptoBulkAll ds ≤ 1048576)
def OpenSpec.upto (s : _root_.Go.ChangeSpec) : _root_.Go.OpenSpec := { _root_.Go.OpenSpec.ofChange s with cond := some uptoSmall }

/-- 'hatchwaylaw05.WireRows', WHERE WHAT IT READS IS OF BULK AT MOST 1048576: true; the input reads as it did. -/
def wireRowsUptoRow : OpenClaim := { program := "ytmdkihggeodjfaa", sum := "b9e93c05548a61f3712686ea06e58934586019edd303e327d8dfeaeb9fe6a5d9", func := "hatchway/hatchwaylaw05.WireRows", spec := "wireRows", unfollowed := true, recurses := true, loops := true, apart := false, narrowed := true }
def WireRowsUptoSaid : Prop := wireRowsUptoRow.holds Try.pinned (OpenSpec.upto wireRowsSpec)

/-- 'hatchwaylaw05.WireTrees', WHERE WHAT IT READS IS OF BULK AT MOST 1048576: true; the input reads as it did. -/
def wireTreesUptoRow : OpenClaim := { program := "ytmdkihggeodjfaa", sum := "b9e93c05548a61f3712686ea06e58934586019edd303e327d8dfeaeb9fe6a5d9", func := "hatchway/hatchwaylaw05.WireTrees", spec := "wireTrees", unfollowed := true, recurses := true, loops := true, apart := false, narrowed := true }
def WireTreesUptoSaid : Prop := wireTreesUptoRow.holds Try.pinned (OpenSpec.upto wireTreesSpec)

/-- 'hatchwaylaw05.WireOrder', WHERE WHAT IT READS IS OF BULK AT MOST 1048576: true; the input reads as it did. -/
def wireOrderUptoRow : OpenClaim := { program := "ytmdkihggeodjfaa", sum := "b9e93c05548a61f3712686ea06e58934586019edd303e327d8dfeaeb9fe6a5d9", func := "hatchway/hatchwaylaw05.WireOrder", spec := "wireOrder", unfollowed := true, recurses := true, apart := false, narrowed := true }
def WireOrderUptoSaid : Prop := wireOrderUptoRow.holds Try.pinned (OpenSpec.upto wireOrderSpec)

/-- 'hatchwaylaw05.WireForm', WHERE WHAT IT READS IS OF BULK AT MOST 1048576: true; the input reads as it did. -/
def wireFormUptoRow : OpenClaim := { program := "ytmdkihggeodjfaa", sum := "b9e93c05548a61f3712686ea06e58934586019edd303e327d8dfeaeb9fe6a5d9", func := "hatchway/hatchwaylaw05.WireForm", spec := "wireForm", unfollowed := true, recurses := true, loops := true, apart := false, narrowed := true }
def WireFormUptoSaid : Prop := wireFormUptoRow.holds Try.pinned (OpenSpec.upto wireFormSpec)

end Rows
end Go.Proofs.Ytmdkihggeodjfaa
