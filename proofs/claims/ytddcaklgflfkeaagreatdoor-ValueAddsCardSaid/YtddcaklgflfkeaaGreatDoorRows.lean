/-
  NARROWER THAN 'FOR EVERY INPUT', by the rows' own cells (each row's printed sentence says how): ValueTwice: laid · ValueTouch: laid · ValueAdds: laid · ValueKinds: laid.
  DERIVED. THE GIVEN ROWS OF THIS SEAT. 4 by the template 'for every input the law returns true; each argument reads behind the call as it read before'; 0 by the template 'total and deterministic' (their statements: YtddcaklgflfkeaaGreatDoorTotals.lean).
  GIVEN WITH THE SEED: the statements are not yours to turn. If you find one false, say at which input.
  Laid BY PROGRAM, IN A SANDBOX (cutbox-rows.mjs): the forced cells as the released guide's own fill.sh prints them over the translation 65f7bb11c7ce649f… (all of the seat's roots in one cut). By AI agents, Wed Nov 11 2026. No macro, syntax, notation, axiom, sorry.
-/
import Derived.Test.YtddcaklgflfkeaaGreatDoorChecked
import GoSem.Claim
import GoSem.ClaimJoined
import GoSem.ClaimMapViews
import Derived.JoinedTies
import Derived.KernelRfl
namespace Go.Proofs.YtddcaklgflfkeaaGreatDoor
/- THE CELL 'sum', in the pinned program and in every row, IS THE sha256 OF THE DUMP (.gsa) THAT YtddcaklgflfkeaaGreatDoorProg.lean LOADS. Nothing in Lean hashes anything: it is a label: what it is worth is what the hold of that sum in a sandbox is worth. -/
noncomputable def Tryz.pinned : Pinned := { name := "ytddcaklgflfkeaagreatdoor", sum := "65f7bb11c7ce649f49bc8f6c8ba04fdfc96e5f86267b4b07bfd156bad2a10dde", checked := Tryz.checked }
namespace Rows
def none {H : Type} : Left H := { results := [], args := [] }

/- WHAT THE LISTED PACKAGE-LEVEL VARIABLES READ AS WHEN THE CALL BEGINS. Each datum BY PROGRAM (the guide's laid-datum.mjs) off the statement by which the dump's own 'gosem.cut.vars' lays the variable. In a bare row this is a premise. The card (YtddcaklgflfkeaaGreatDoorCards.lean) ties it to the program's text. -/
def laid_math_bits_deBruijn64tab {H : Type} : DataW H := .agg [.lit (.int .u8 0), .lit (.int .u8 1), .lit (.int .u8 56), .lit (.int .u8 2), .lit (.int .u8 57), .lit (.int .u8 49), .lit (.int .u8 28), .lit (.int .u8 3), .lit (.int .u8 61), .lit (.int .u8 58), .lit (.int .u8 42), .lit (.int .u8 50), .lit (.int .u8 38), .lit (.int .u8 29), .lit (.int .u8 17), .lit (.int .u8 4), .lit (.int .u8 62), .lit (.int .u8 47), .lit (.int .u8 59), .lit (.int .u8 36), .lit (.int .u8 45), .lit (.int .u8 43), .lit (.int .u8 51), .lit (.int .u8 22), .lit (.int .u8 53), .lit (.int .u8 39), .lit (.int .u8 33), .lit (.int .u8 30), .lit (.int .u8 24), .lit (.int .u8 18), .lit (.int .u8 12), .lit (.int .u8 5), .lit (.int .u8 63), .lit (.int .u8 55), .lit (.int .u8 48), .lit (.int .u8 27), .lit (.int .u8 60), .lit (.int .u8 41), .lit (.int .u8 37), .lit (.int .u8 16), .lit (.int .u8 46), .lit (.int .u8 35), .lit (.int .u8 44), .lit (.int .u8 21), .lit (.int .u8 52), .lit (.int .u8 32), .lit (.int .u8 23), .lit (.int .u8 11), .lit (.int .u8 54), .lit (.int .u8 26), .lit (.int .u8 40), .lit (.int .u8 15), .lit (.int .u8 34), .lit (.int .u8 20), .lit (.int .u8 31), .lit (.int .u8 10), .lit (.int .u8 25), .lit (.int .u8 14), .lit (.int .u8 19), .lit (.int .u8 9), .lit (.int .u8 13), .lit (.int .u8 8), .lit (.int .u8 7), .lit (.int .u8 6)]

/-- 'hatchwaylaw22.ValueTwice': WHATEVER THE INPUT: true; the input reads as it did. -/
def valueTwiceSpec : ChangeSpec := { name := "valueTwice", fn := fun _ => fun
  | [d1, d2, d3, d4] => { results := [.lit (.bool true)], args := [d1, d2, d3, d4] }
  | _ => none }
def valueTwiceRow : OpenClaim := { program := "ytddcaklgflfkeaagreatdoor", sum := "65f7bb11c7ce649f49bc8f6c8ba04fdfc96e5f86267b4b07bfd156bad2a10dde", func := "hatchway/hatchwaylaw22.ValueTwice", spec := "valueTwice", inPlace := ["math/bits.Add64"], unfollowed := true, recurses := true, named := ["math/bits.deBruijn64tab"], plainKeys := false, apart := false, laid := [("math/bits.deBruijn64tab", laid_math_bits_deBruijn64tab)] }
def ValueTwiceSaid : Prop := valueTwiceRow.holds Tryz.pinned (OpenSpec.ofChange valueTwiceSpec)

/-- ITS FALSE NEIGHBOUR: 'it returns false'. Refute it at one input. -/
def valueTwiceWrong : ChangeSpec := { name := "valueTwice", fn := fun _ => fun
  | [d1, d2, d3, d4] => { results := [.lit (.bool false)], args := [d1, d2, d3, d4] }
  | _ => none }
def ValueTwiceWrongFalsely : Prop := valueTwiceRow.holds Tryz.pinned (OpenSpec.ofChange valueTwiceWrong)

/-- 'hatchwaylaw22.ValueTouch': WHATEVER THE INPUT: true; the input reads as it did. -/
def valueTouchSpec : ChangeSpec := { name := "valueTouch", fn := fun _ => fun
  | [d1, d2, d3, d4, d5, d6] => { results := [.lit (.bool true)], args := [d1, d2, d3, d4, d5, d6] }
  | _ => none }
def valueTouchRow : OpenClaim := { program := "ytddcaklgflfkeaagreatdoor", sum := "65f7bb11c7ce649f49bc8f6c8ba04fdfc96e5f86267b4b07bfd156bad2a10dde", func := "hatchway/hatchwaylaw22.ValueTouch", spec := "valueTouch", inPlace := ["math/bits.Add64"], unfollowed := true, recurses := true, named := ["math/bits.deBruijn64tab"], plainKeys := false, apart := false, laid := [("math/bits.deBruijn64tab", laid_math_bits_deBruijn64tab)] }
def ValueTouchSaid : Prop := valueTouchRow.holds Tryz.pinned (OpenSpec.ofChange valueTouchSpec)

/-- ITS FALSE NEIGHBOUR: 'it returns false'. Refute it at one input. -/
def valueTouchWrong : ChangeSpec := { name := "valueTouch", fn := fun _ => fun
  | [d1, d2, d3, d4, d5, d6] => { results := [.lit (.bool false)], args := [d1, d2, d3, d4, d5, d6] }
  | _ => none }
def ValueTouchWrongFalsely : Prop := valueTouchRow.holds Tryz.pinned (OpenSpec.ofChange valueTouchWrong)

/-- 'hatchwaylaw22.ValueAdds': WHATEVER THE INPUT: true; the input reads as it did. -/
def valueAddsSpec : ChangeSpec := { name := "valueAdds", fn := fun _ => fun
  | [d1, d2, d3, d4, d5, d6, d7] => { results := [.lit (.bool true)], args := [d1, d2, d3, d4, d5, d6, d7] }
  | _ => none }
def valueAddsRow : OpenClaim := { program := "ytddcaklgflfkeaagreatdoor", sum := "65f7bb11c7ce649f49bc8f6c8ba04fdfc96e5f86267b4b07bfd156bad2a10dde", func := "hatchway/hatchwaylaw22.ValueAdds", spec := "valueAdds", inPlace := ["math/bits.Add64"], unfollowed := true, recurses := true, named := ["math/bits.deBruijn64tab"], plainKeys := false, apart := false, laid := [("math/bits.deBruijn64tab", laid_math_bits_deBruijn64tab)] }
def ValueAddsSaid : Prop := valueAddsRow.holds Tryz.pinned (OpenSpec.ofChange valueAddsSpec)

/-- ITS FALSE NEIGHBOUR: 'it returns false'. Refute it at one input. -/
def valueAddsWrong : ChangeSpec := { name := "valueAdds", fn := fun _ => fun
  | [d1, d2, d3, d4, d5, d6, d7] => { results := [.lit (.bool false)], args := [d1, d2, d3, d4, d5, d6, d7] }
  | _ => none }
def ValueAddsWrongFalsely : Prop := valueAddsRow.holds Tryz.pinned (OpenSpec.ofChange valueAddsWrong)

/-- 'hatchwaylaw22.ValueKinds': WHATEVER THE INPUT: true; the input reads as it did. -/
def valueKindsSpec : ChangeSpec := { name := "valueKinds", fn := fun _ => fun
  | [] => { results := [.lit (.bool true)], args := [] }
  | _ => none }
def valueKindsRow : OpenClaim := { program := "ytddcaklgflfkeaagreatdoor", sum := "65f7bb11c7ce649f49bc8f6c8ba04fdfc96e5f86267b4b07bfd156bad2a10dde", func := "hatchway/hatchwaylaw22.ValueKinds", spec := "valueKinds", inPlace := ["math/bits.Add64"], unfollowed := true, recurses := true, named := ["math/bits.deBruijn64tab"], plainKeys := false, apart := false, laid := [("math/bits.deBruijn64tab", laid_math_bits_deBruijn64tab)] }
def ValueKindsSaid : Prop := valueKindsRow.holds Tryz.pinned (OpenSpec.ofChange valueKindsSpec)

/-- ITS FALSE NEIGHBOUR: 'it returns false'. Refute it at one input. -/
def valueKindsWrong : ChangeSpec := { name := "valueKinds", fn := fun _ => fun
  | [] => { results := [.lit (.bool false)], args := [] }
  | _ => none }
def ValueKindsWrongFalsely : Prop := valueKindsRow.holds Tryz.pinned (OpenSpec.ofChange valueKindsWrong)

/- THE SECOND FORM. 'bulk': how many values and letters a reading holds, each counted each time it is reached (what is shared counts as often as it is met; a slice's spare places count too). A statement '..UptoSaid' is the law's where the arguments, and the package variables that the reading takes, are together of bulk at most 1048576: NARROWER than '..Said'. Prove '..Said' where nothing that the law and all that it calls make is longer than what came in: it says more and counts as full. Else prove '..UptoSaid'. A law counts once. -/
mutual
def uptoBulk {H : Type} : DataW H → Nat
  | .lit (.string bytes) => bytes.length + 1
  | .lit _ => 1
  | .nil => 1
  | .ptr d => uptoBulk d + 1
  | .slice elems spare => uptoBulkAll elems + uptoBulkAll spare + 1
  | .agg parts => uptoBulkAll parts + 1
  | .iface _ d => uptoBulk d + 1
  | .map entries => uptoBulkEntries entries + 1
  | .held _ => 1
def uptoBulkAll {H : Type} : List (DataW H) → Nat
  | [] => 0
  | d :: r => uptoBulk d + uptoBulkAll r
def uptoBulkEntries {H : Type} : List (Lit × DataW H) → Nat
  | [] => 0
  | x :: r => uptoBulkEntry x + uptoBulkEntries r
def uptoBulkEntry {H : Type} : Lit × DataW H → Nat
  | (.string bytes, d) => bytes.length + uptoBulk d + 1
  | (_, d) => uptoBulk d + 1
 end
def uptoSmall : (H : Type) → List (DataW H) → Bool := fun _ ds => decide (uptoBulkAll ds ≤ 1048576)
def OpenSpec.upto (s : _root_.Go.ChangeSpec) : _root_.Go.OpenSpec := { _root_.Go.OpenSpec.ofChange s with cond := some uptoSmall }

/-- 'hatchwaylaw22.ValueTwice', WHERE WHAT IT READS IS OF BULK AT MOST 1048576: true; the input reads as it did. -/
def valueTwiceUptoRow : OpenClaim := { program := "ytddcaklgflfkeaagreatdoor", sum := "65f7bb11c7ce649f49bc8f6c8ba04fdfc96e5f86267b4b07bfd156bad2a10dde", func := "hatchway/hatchwaylaw22.ValueTwice", spec := "valueTwice", inPlace := ["math/bits.Add64"], unfollowed := true, recurses := true, named := ["math/bits.deBruijn64tab"], plainKeys := false, apart := false, laid := [("math/bits.deBruijn64tab", laid_math_bits_deBruijn64tab)], narrowed := true }
def ValueTwiceUptoSaid : Prop := valueTwiceUptoRow.holds Tryz.pinned (OpenSpec.upto valueTwiceSpec)

/-- 'hatchwaylaw22.ValueTouch', WHERE WHAT IT READS IS OF BULK AT MOST 1048576: true; the input reads as it did. -/
def valueTouchUptoRow : OpenClaim := { program := "ytddcaklgflfkeaagreatdoor", sum := "65f7bb11c7ce649f49bc8f6c8ba04fdfc96e5f86267b4b07bfd156bad2a10dde", func := "hatchway/hatchwaylaw22.ValueTouch", spec := "valueTouch", inPlace := ["math/bits.Add64"], unfollowed := true, recurses := true, named := ["math/bits.deBruijn64tab"], plainKeys := false, apart := false, laid := [("math/bits.deBruijn64tab", laid_math_bits_deBruijn64tab)], narrowed := true }
def ValueTouchUptoSaid : Prop := valueTouchUptoRow.holds Tryz.pinned (OpenSpec.upto valueTouchSpec)

/-- 'hatchwaylaw22.ValueAdds', WHERE WHAT IT READS IS OF BULK AT MOST 1048576: true; the input reads as it did. -/
def valueAddsUptoRow : OpenClaim := { program := "ytddcaklgflfkeaagreatdoor", sum := "65f7bb11c7ce649f49bc8f6c8ba04fdfc96e5f86267b4b07bfd156bad2a10dde", func := "hatchway/hatchwaylaw22.ValueAdds", spec := "valueAdds", inPlace := ["math/bits.Add64"], unfollowed := true, recurses := true, named := ["math/bits.deBruijn64tab"], plainKeys := false, apart := false, laid := [("math/bits.deBruijn64tab", laid_math_bits_deBruijn64tab)], narrowed := true }
def ValueAddsUptoSaid : Prop := valueAddsUptoRow.holds Tryz.pinned (OpenSpec.upto valueAddsSpec)

/-- 'hatchwaylaw22.ValueKinds', WHERE WHAT IT READS IS OF BULK AT MOST 1048576: true; the input reads as it did. -/
def valueKindsUptoRow : OpenClaim := { program := "ytddcaklgflfkeaagreatdoor", sum := "65f7bb11c7ce649f49bc8f6c8ba04fdfc96e5f86267b4b07bfd156bad2a10dde", func := "hatchway/hatchwaylaw22.ValueKinds", spec := "valueKinds", inPlace := ["math/bits.Add64"], unfollowed := true, recurses := true, named := ["math/bits.deBruijn64tab"], plainKeys := false, apart := false, laid := [("math/bits.deBruijn64tab", laid_math_bits_deBruijn64tab)], narrowed := true }
def ValueKindsUptoSaid : Prop := valueKindsUptoRow.holds Tryz.pinned (OpenSpec.upto valueKindsSpec)

end Rows
end Go.Proofs.YtddcaklgflfkeaaGreatDoor
