/- params: Parse, walked (a string of fine bytes). -/
import Derived.Test.YtpkkfcfkhiaggaaMJ
import Derived.Outline
import Derived.Deep.LoopGhost
set_option linter.unusedSimpArgs false
set_option linter.unusedVariables false
set_option linter.unnecessarySimpa false
namespace Go.Proofs.Ytpkkfcfkhiaggaa.Pm
open Go.RowKit

end Go.Proofs.Ytpkkfcfkhiaggaa.Pm
