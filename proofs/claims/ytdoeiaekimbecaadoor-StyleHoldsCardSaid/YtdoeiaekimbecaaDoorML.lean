/- params: Parse, walked (a byte is not fine). -/
import Derived.Test.YtdoeiaekimbecaaDoorMK
import Derived.Outline
import Derived.Lib.TrimU
import Derived.Deep.LoopGhost
set_option linter.unusedSimpArgs false
set_option linter.unusedVariables false
set_option linter.unnecessarySimpa false
namespace Go.Proofs.YtdoeiaekimbecaaDoor.Pm
open Go.RowKit

end Go.Proofs.YtdoeiaekimbecaaDoor.Pm
