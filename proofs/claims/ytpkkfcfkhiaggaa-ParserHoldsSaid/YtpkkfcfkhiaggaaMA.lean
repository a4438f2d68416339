/- params: the functions that only read. -/
import Derived.Test.YtpkkfcfkhiaggaaSl
import Derived.Outline
set_option linter.unusedSimpArgs false
set_option linter.unusedVariables false
set_option linter.unnecessarySimpa false
namespace Go.Proofs.Ytpkkfcfkhiaggaa.Pm
open Go.RowKit

def fineR (r : Int) : Bool := decide (r = 59 ∨ (48 ≤ r ∧ r ≤ 57))
theorem fine_any (r : Int) (w : World) : Calls Try.prog 74 #[.int .i32 r] w fun e w' => e = .returned (.bool (fineR r)) ∧ w = w' := by
  go_enter Try.func74, Try.ntmps74
  go_wp2_with fail
  all_goals
    go_ret
    exact ⟨ret_bool (by rw [Bool.eq_iff_iff]; simp [fineR]; try omega), rfl⟩

/-- The parameter with an index, or another number. -/
def getP (l : List Int) (i m : Int) : Int := if 0 ≤ i ∧ i < l.length ∧ 0 ≤ l.getD i.toNat 0 then l.getD i.toNat 0 else m
def oneP (l : List Int) (i : Int) : Int := if getP l i 0 = 0 then 1 else getP l i 0
end Go.Proofs.Ytpkkfcfkhiaggaa.Pm
