/- Nothing of its own: two texts together. -/
import Derived.Test.YtfnodgpebheinaaM14
import Derived.Test.YtfnodgpebheinaaM17
import Derived.Deep.DeepCutAuto
import Derived.Deep.CutBlock
namespace Go.Proofs.Ytfnodgpebheinaa.M
open Go Go.RowKit
set_option linter.unusedVariables false
set_option linter.unusedSimpArgs false
attribute [local simp, local go_sem] lt_a2 lt_a3 lt_a4 lt_a5 lt_a6 lt_a7 lt_a8
set_option maxHeartbeats 4000000
end Go.Proofs.Ytfnodgpebheinaa.M
