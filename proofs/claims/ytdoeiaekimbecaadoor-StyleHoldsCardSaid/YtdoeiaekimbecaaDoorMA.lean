/- params: the functions that only read. -/
import Derived.Test.YtdoeiaekimbecaaDoorSl
import Derived.Outline
set_option linter.unusedSimpArgs false
set_option linter.unusedVariables false
set_option linter.unnecessarySimpa false
namespace Go.Proofs.YtdoeiaekimbecaaDoor.Pm
open Go.RowKit

def fineR (r : Int) : Bool := decide (r = 59 ∨ (48 ≤ r ∧ r ≤ 57))
/-- The parameter with an index, or another number. -/
def getP (l : List Int) (i m : Int) : Int := if 0 ≤ i ∧ i < l.length ∧ 0 ≤ l.getD i.toNat 0 then l.getD i.toNat 0 else m
def oneP (l : List Int) (i : Int) : Int := if getP l i 0 = 0 then 1 else getP l i 0
end Go.Proofs.YtdoeiaekimbecaaDoor.Pm
