/- params: a rune is added to a builder. -/
import Derived.Test.YtdoeiaekimbecaaDoorMC
import Derived.Outline
set_option linter.unusedSimpArgs false
set_option linter.unusedVariables false
set_option linter.unnecessarySimpa false
namespace Go.Proofs.YtdoeiaekimbecaaDoor.Pm
open Go.RowKit

/-- A builder's numbers with a digit more. -/
def digB (ws : List Int) (r : Int) : List Int := ws.set (ws.length - 1) (min (10 * max (ws.getD (ws.length - 1) 0) 0 + (r - 48)) 9999)
def addB (ws : List Int) (ov : Bool) (r : Int) : List Int := if r = 59 then openB (if ws = [] then [-1] else ws) else if ov then (if ws = [] then [-1] else ws) else digB (if ws = [] then [-1] else ws) r
def addO (ws : List Int) (ov : Bool) (r : Int) : Bool := if r = 59 then openO (if ws = [] then [-1] else ws) ov else ov

theorem get_of_take (ls ws : List Int) (h : ls.take ws.length = ws) (j : Nat) (hj : j < ws.length) : ls.getD j 0 = ws.getD j 0 := by
  have e : ws[j]? = ls[j]? := by
    have h2 : (ls.take ws.length)[j]? = ws[j]? := by rw [h]
    rw [← h2, List.getElem?_take, if_pos hj]
  simp [List.getD, e]
theorem take_set_in (ls ws : List Int) (h : ls.take ws.length = ws) (j : Nat) (x : Int) : (ls.set j x).take (ws.set j x).length = ws.set j x := by
  rw [List.length_set, List.take_set, h]
/-- What Add says of the world behind it. -/
def Added (D : Nat) (t : TypeId) (pre rest : List Value) (w : World) (ws : List Int) (ov : Bool) (e : Ending) (w' : World) : Prop := e = .returned (.bool true) ∧ Bar D w w' ∧ BldV w' D t pre rest ws ov

end Go.Proofs.YtdoeiaekimbecaaDoor.Pm
