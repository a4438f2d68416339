/- params: Parse, walked (a string of fine bytes). -/
import Derived.Test.YtdoeiaekimbecaaDoorMJ
import Derived.Outline
import Derived.Deep.LoopGhost
set_option linter.unusedSimpArgs false
set_option linter.unusedVariables false
set_option linter.unnecessarySimpa false
namespace Go.Proofs.YtdoeiaekimbecaaDoor.Pm
open Go.RowKit

end Go.Proofs.YtdoeiaekimbecaaDoor.Pm
