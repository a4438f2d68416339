/- params: Parse, walked (a byte is not fine). -/
import Derived.Test.YtpkkfcfkhiaggaaMK
import Derived.Outline
import Derived.Lib.TrimU
import Derived.Deep.LoopGhost
set_option linter.unusedSimpArgs false
set_option linter.unusedVariables false
set_option linter.unnecessarySimpa false
namespace Go.Proofs.Ytpkkfcfkhiaggaa.Pm
open Go.RowKit

end Go.Proofs.Ytpkkfcfkhiaggaa.Pm
