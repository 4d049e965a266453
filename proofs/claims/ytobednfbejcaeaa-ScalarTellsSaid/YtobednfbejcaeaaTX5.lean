import Derived.Test.YtobednfbejcaeaaTX4
namespace Go.Proofs.Ytobednfbejcaeaa
open Go.RowKit Go.Sx
set_option linter.unusedSimpArgs false
set_option linter.unusedVariables false
set_option linter.unnecessarySimpa false
set_option maxRecDepth 100000
set_option maxHeartbeats 4000000
namespace T
def rt (v m : BitVec 64) : Tn := ⟨v &&& ~~~m, m⟩
theorem right_rt (v m : BitVec 64) : right (rt v m) = true := by unfold right rt; simp [BitVec.and_assoc]
end T
end Go.Proofs.Ytobednfbejcaeaa
