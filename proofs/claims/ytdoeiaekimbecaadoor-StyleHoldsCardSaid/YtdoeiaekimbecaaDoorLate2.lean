/- A region that draws its order: the condition on the world may be made stronger on the way. -/
import Derived.Test.YtdoeiaekimbecaaDoorLate
set_option linter.unusedSimpArgs false
set_option linter.unusedVariables false
set_option linter.unnecessarySimpa false
namespace Go.Proofs.YtdoeiaekimbecaaDoor
open Go

theorem wpAnyG_mono {P : Program} {ops : Array Oper} {Q : Exit → Act → World → Prop} {md : Region.Mode} {S S' : World → Prop} {M : List Nat} (hS : ∀ w, S' w → S w) : ∀ {fuel : Nat} {listed : Array Bool} {a : Act} {w : World}, wpAnyG P md ops Q S' M fuel listed a w → wpAnyG P md ops Q S M fuel listed a w
  | 0, _, _, _, h => h
  | _ + 1, _, _, _, h => ⟨h.1, fun i hi => wpOp_mono (fun _ _ h' => ⟨fun he => hS _ (h'.1 he), wpAnyG_mono hS h'.2⟩) (h.2 i hi)⟩

end Go.Proofs.YtdoeiaekimbecaaDoor
