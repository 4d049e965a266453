import Derived.Test.YtgfemfgimefmeaaGreatX78
import Derived.Test.YtgfemfgimefmeaaGreatX80
namespace Go.Proofs.YtgfemfgimefmeaaGreat
open Go.RowKit Go.Sx
set_option linter.unusedSimpArgs false
set_option linter.unusedVariables false
set_option linter.unnecessarySimpa false
set_option maxRecDepth 100000
set_option maxHeartbeats 4000000
end Go.Proofs.YtgfemfgimefmeaaGreat
