/- params: the reference's decimal. -/
import Derived.Test.YtdoeiaekimbecaaDoorMN
import Derived.Test.YtdoeiaekimbecaaDoorShelf
import Derived.Outline
import Derived.Lib.ItoaLen
import Derived.Lib.ItoaMem
set_option linter.unusedSimpArgs false
set_option linter.unusedVariables false
set_option linter.unnecessarySimpa false
namespace Go.Proofs.YtdoeiaekimbecaaDoor.Pm
open Go.RowKit

theorem mk_app (a b : List UInt8) : (⟨a.toArray⟩ : ByteArray) ++ ⟨b.toArray⟩ = ⟨(a ++ b).toArray⟩ := by apply ByteArray.ext; simp
theorem strOf_one (c : Int) : strOfNums [c] = ⟨[UInt8.ofNat c.toNat].toArray⟩ := rfl
theorem decDigits_step {n : Nat} (h : ¬ n < 10) : Lib.decDigits n = Lib.decDigits (n / 10) ++ Lib.decDigits (n % 10) := by
  rw [Lib.decDigits, dif_neg h, Lib.decDigits_one (i := n % 10) (by omega)]

end Go.Proofs.YtdoeiaekimbecaaDoor.Pm
