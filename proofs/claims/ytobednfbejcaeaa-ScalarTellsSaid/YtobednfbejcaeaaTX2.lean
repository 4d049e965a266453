import Derived.Test.YtobednfbejcaeaaTX1
namespace Go.Proofs.Ytobednfbejcaeaa
open Go.RowKit Go.Sx
set_option linter.unusedSimpArgs false
set_option linter.unusedVariables false
set_option linter.unnecessarySimpa false
set_option maxRecDepth 100000
set_option maxHeartbeats 4000000
namespace T
/-- What an operation of two comes to, by its number. -/
def opI (op : Int) (a b : Tn) : Tn × Bool := if op == 0 then (T.sum a b, true) else if op == 16 then (T.difference a b, true) else if op == 80 then (T.and a b, true) else if op == 64 then (T.or a b, true) else if op == 160 then (T.xor a b, true) else if op == 32 then (T.product a b, true) else (⟨0, 0⟩, false)
def doesI (op : Int) (a b : Tn) : Tn × Bool := if right a && right b then opI op a b else (⟨0, 0⟩, false)
end T
end Go.Proofs.Ytobednfbejcaeaa
