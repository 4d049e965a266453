/-
  No cell of these rows narrows 'for every input' (looked for: loops, veiled, ifaces, maps, wideKeys, modest, calm, conditions, laid).
  DERIVED. THE GIVEN ROWS OF THIS SEAT. 4 by the template 'for every input the law returns true; each argument reads behind the call as it read before'; 0 by the template 'total and deterministic' (their statements: YtnbcemeofhaogaaTotals.lean).
  GIVEN WITH THE SEED: the statements are not yours to turn. If you find one false, say at which input.
  Laid BY PROGRAM, IN A SANDBOX (cutbox-rows.mjs): the forced cells as the released guide's own fill.sh prints them over the translation 0f9ef068a4e5388e… (all of the seat's roots in one cut). By AI agents, Wed Nov 11 2026. No macro, syntax, notation, axiom, sorry.
-/
import Derived.Test.YtnbcemeofhaogaaChecked
import GoSem.Claim
import GoSem.ClaimJoined
import GoSem.ClaimMapViews
import Derived.JoinedTies
import Derived.KernelRfl
namespace Go.Proofs.Ytnbcemeofhaogaa
/- THE CELL 'sum', in the pinned program and in every row, IS THE sha256 OF THE DUMP (.gsa) THAT YtnbcemeofhaogaaProg.lean LOADS. Nothing in Lean hashes anything: it is a label: what it is worth is what the hold of that sum in a sandbox is worth. -/
noncomputable def Try.pinned : Pinned := { name := "ytnbcemeofhaogaa", sum := "0f9ef068a4e5388ef223e990bfce4e9063b9b41edaff318d38361b4f1b75fdca", checked := Try.checked }
namespace Rows
def none {H : Type} : Left H := { results := [], args := [] }

/-- 'hatchwaylaw06.KindsOwn': WHATEVER THE INPUT: true; the input reads as it did. -/
def kindsOwnSpec : ChangeSpec := { name := "kindsOwn", fn := fun _ => fun
  | [d1, d2, d3, d4] => { results := [.lit (.bool true)], args := [d1, d2, d3, d4] }
  | _ => none }
def kindsOwnRow : OpenClaim := { program := "ytnbcemeofhaogaa", sum := "0f9ef068a4e5388ef223e990bfce4e9063b9b41edaff318d38361b4f1b75fdca", func := "hatchway/hatchwaylaw06.KindsOwn", spec := "kindsOwn", unfollowed := true, recurses := true, apart := false }
def KindsOwnSaid : Prop := kindsOwnRow.holds Try.pinned (OpenSpec.ofChange kindsOwnSpec)

/-- ITS FALSE NEIGHBOUR: 'it returns false'. Refute it at one input. -/
def kindsOwnWrong : ChangeSpec := { name := "kindsOwn", fn := fun _ => fun
  | [d1, d2, d3, d4] => { results := [.lit (.bool false)], args := [d1, d2, d3, d4] }
  | _ => none }
def KindsOwnWrongFalsely : Prop := kindsOwnRow.holds Try.pinned (OpenSpec.ofChange kindsOwnWrong)

/-- 'hatchwaylaw06.KindsWords': WHATEVER THE INPUT: true; the input reads as it did. -/
def kindsWordsSpec : ChangeSpec := { name := "kindsWords", fn := fun _ => fun
  | [d1, d2, d3] => { results := [.lit (.bool true)], args := [d1, d2, d3] }
  | _ => none }
def kindsWordsRow : OpenClaim := { program := "ytnbcemeofhaogaa", sum := "0f9ef068a4e5388ef223e990bfce4e9063b9b41edaff318d38361b4f1b75fdca", func := "hatchway/hatchwaylaw06.KindsWords", spec := "kindsWords", unfollowed := true, recurses := true, apart := false }
def KindsWordsSaid : Prop := kindsWordsRow.holds Try.pinned (OpenSpec.ofChange kindsWordsSpec)

/-- ITS FALSE NEIGHBOUR: 'it returns false'. Refute it at one input. -/
def kindsWordsWrong : ChangeSpec := { name := "kindsWords", fn := fun _ => fun
  | [d1, d2, d3] => { results := [.lit (.bool false)], args := [d1, d2, d3] }
  | _ => none }
def KindsWordsWrongFalsely : Prop := kindsWordsRow.holds Try.pinned (OpenSpec.ofChange kindsWordsWrong)

/-- 'hatchwaylaw06.KindsEnds': WHATEVER THE INPUT: true; the input reads as it did. -/
def kindsEndsSpec : ChangeSpec := { name := "kindsEnds", fn := fun _ => fun
  | [] => { results := [.lit (.bool true)], args := [] }
  | _ => none }
def kindsEndsRow : OpenClaim := { program := "ytnbcemeofhaogaa", sum := "0f9ef068a4e5388ef223e990bfce4e9063b9b41edaff318d38361b4f1b75fdca", func := "hatchway/hatchwaylaw06.KindsEnds", spec := "kindsEnds", unfollowed := true, recurses := true, apart := false }
def KindsEndsSaid : Prop := kindsEndsRow.holds Try.pinned (OpenSpec.ofChange kindsEndsSpec)

/-- ITS FALSE NEIGHBOUR: 'it returns false'. Refute it at one input. -/
def kindsEndsWrong : ChangeSpec := { name := "kindsEnds", fn := fun _ => fun
  | [] => { results := [.lit (.bool false)], args := [] }
  | _ => none }
def KindsEndsWrongFalsely : Prop := kindsEndsRow.holds Try.pinned (OpenSpec.ofChange kindsEndsWrong)

/-- 'hatchwaylaw06.KindsLess': WHATEVER THE INPUT: true; the input reads as it did. -/
def kindsLessSpec : ChangeSpec := { name := "kindsLess", fn := fun _ => fun
  | [d1, d2] => { results := [.lit (.bool true)], args := [d1, d2] }
  | _ => none }
def kindsLessRow : OpenClaim := { program := "ytnbcemeofhaogaa", sum := "0f9ef068a4e5388ef223e990bfce4e9063b9b41edaff318d38361b4f1b75fdca", func := "hatchway/hatchwaylaw06.KindsLess", spec := "kindsLess", inPlace := ["internal/bytealg.abigen_runtime_cmpstring"], unfollowed := true, recurses := true, apart := false }
def KindsLessSaid : Prop := kindsLessRow.holds Try.pinned (OpenSpec.ofChange kindsLessSpec)

/-- ITS FALSE NEIGHBOUR: 'it returns false'. Refute it at one input. -/
def kindsLessWrong : ChangeSpec := { name := "kindsLess", fn := fun _ => fun
  | [d1, d2] => { results := [.lit (.bool false)], args := [d1, d2] }
  | _ => none }
def KindsLessWrongFalsely : Prop := kindsLessRow.holds Try.pinned (OpenSpec.ofChange kindsLessWrong)

/- THE SECOND FORM. 'bulk': how many values and letters a reading holds, each counted each time it is reached (what is shared counts as often as it is met; a slice's spare places count too). A statement '..UptoSaid' is the law's where the arguments, and the package variables that the reading takes, are together of bulk at most 1048576: NARROWER than '..Said'. Prove '..Said' where nothing that the law and all that it calls make is longer than what came in: it says more and counts as full. Else prove '..UptoSaid'. A law counts once. -/
mutual
def uptoBulk {H : Type} : DataW H → Nat
  | .lit (.string bytes) => bytes.length + 1
  | .lit _ => 1
  | .nil => 1
  | .ptr d => uptoBulk d + 1
  | .slice elems spare => uptoBulkAll elems + uptoBulkAll spare + 1
  | .agg parts => uptoBulkAll parts + 1
  | .iface _ d => uptoBulk d + 1
  | .map entries => uptoBulkEntries entries + 1
  | .held _ => 1
def uptoBulkAll {H : Type} : List (DataW H) → Nat
  | [] => 0
  | d :: r => uptoBulk d + uptoBulkAll r
def uptoBulkEntries {H : Type} : List (Lit × DataW H) → Nat
  | [] => 0
  | x :: r => uptoBulkEntry x + uptoBulkEntries r
def uptoBulkEntry {H : Type} : Lit × DataW H → Nat
  | (.string bytes, d) => bytes.length + uptoBulk d + 1
  | (_, d) => uptoBulk d + 1
 end
def uptoSmall : (H : Type) → List (DataW H) → Bool := fun _ ds => decide (uptoBulkAll ds ≤ 1048576)
def OpenSpec.upto (s : _root_.Go.ChangeSpec) : _root_.Go.OpenSpec := { _root_.Go.OpenSpec.ofChange s with cond := some uptoSmall }

/-- 'hatchwaylaw06.KindsOwn', WHERE WHAT IT READS IS OF BULK AT MOST 1048576: true; the input reads as it did. -/
def kindsOwnUptoRow : OpenClaim := { program := "ytnbcemeofhaogaa", sum := "0f9ef068a4e5388ef223e990bfce4e9063b9b41edaff318d38361b4f1b75fdca", func := "hatchway/hatchwaylaw06.KindsOwn", spec := "kindsOwn", unfollowed := true, recurses := true, apart := false, narrowed := true }
def KindsOwnUptoSaid : Prop := kindsOwnUptoRow.holds Try.pinned (OpenSpec.upto kindsOwnSpec)

/-- 'hatchwaylaw06.KindsWords', WHERE WHAT IT READS IS OF BULK AT MOST 1048576: true; the input reads as it did. -/
def kindsWordsUptoRow : OpenClaim := { program := "ytnbcemeofhaogaa", sum := "0f9ef068a4e5388ef223e990bfce4e9063b9b41edaff318d38361b4f1b75fdca", func := "hatchway/hatchwaylaw06.KindsWords", spec := "kindsWords", unfollowed := true, recurses := true, apart := false, narrowed := true }
def KindsWordsUptoSaid : Prop := kindsWordsUptoRow.holds Try.pinned (OpenSpec.upto kindsWordsSpec)

/-- 'hatchwaylaw06.KindsEnds', WHERE WHAT IT READS IS OF BULK AT MOST 1048576: true; the input reads as it did. -/
def kindsEndsUptoRow : OpenClaim := { program := "ytnbcemeofhaogaa", sum := "0f9ef068a4e5388ef223e990bfce4e9063b9b41edaff318d38361b4f1b75fdca", func := "hatchway/hatchwaylaw06.KindsEnds", spec := "kindsEnds", unfollowed := true, recurses := true, apart := false, narrowed := true }
def KindsEndsUptoSaid : Prop := kindsEndsUptoRow.holds Try.pinned (OpenSpec.upto kindsEndsSpec)

/-- 'hatchwaylaw06.KindsLess', WHERE WHAT IT READS IS OF BULK AT MOST 1048576: true; the input reads as it did. -/
def kindsLessUptoRow : OpenClaim := { program := "ytnbcemeofhaogaa", sum := "0f9ef068a4e5388ef223e990bfce4e9063b9b41edaff318d38361b4f1b75fdca", func := "hatchway/hatchwaylaw06.KindsLess", spec := "kindsLess", inPlace := ["internal/bytealg.abigen_runtime_cmpstring"], unfollowed := true, recurses := true, apart := false, narrowed := true }
def KindsLessUptoSaid : Prop := kindsLessUptoRow.holds Try.pinned (OpenSpec.upto kindsLessSpec)

end Rows
end Go.Proofs.Ytnbcemeofhaogaa
