/- params: Add, whole; Reset. -/
import Derived.Test.YtdoeiaekimbecaaDoorMD
import Derived.Outline
set_option linter.unusedSimpArgs false
set_option linter.unusedVariables false
set_option linter.unnecessarySimpa false
namespace Go.Proofs.YtdoeiaekimbecaaDoor.Pm
open Go.RowKit

end Go.Proofs.YtdoeiaekimbecaaDoor.Pm
