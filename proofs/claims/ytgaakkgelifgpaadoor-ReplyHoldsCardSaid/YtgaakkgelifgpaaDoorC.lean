/- modes: the reference: Is, On, Set; the program: change, Set, Get. -/
import Derived.Test.YtgaakkgelifgpaaDoorB
import Derived.Outline
set_option linter.unusedSimpArgs false
set_option linter.unusedVariables false
set_option linter.unnecessarySimpa false
namespace Go.Proofs.YtgaakkgelifgpaaDoor
open Go.RowKit

/-- Which numbers are modes. -/
def isM (p n : Int) : Bool := if p = 0 then decide (n = 4) else decide (p = 63) && [1, 6, 7, 25, 1006, 2004, 1000, 1002, 1003, 47, 1047, 1049].contains n
def onM (m : Md) (n : Int) : Bool := if n = 4 then m.ins else if n = 1 then m.app else if n = 6 then m.ori else if n = 7 then m.aw else if n = 25 then m.vis else if n = 1006 then m.sgr else if n = 2004 then m.pas else decide (m.ptr = n ∨ m.alt = n)
def setM (m : Md) (n : Int) (on : Bool) : Md :=
  if n = 4 then { m with ins := on } else if n = 1 then { m with app := on } else if n = 6 then { m with ori := on } else if n = 7 then { m with aw := on } else if n = 25 then { m with vis := on } else if n = 1006 then { m with sgr := on } else if n = 2004 then { m with pas := on }
  else if n = 1000 ∨ n = 1002 ∨ n = 1003 then (if on then { m with ptr := n } else if m.ptr = n then { m with ptr := 0 } else m)
  else (if on then { m with alt := n } else if m.alt = n then { m with alt := 0 } else m)
set_option maxHeartbeats 2000000 in
theorem ron_any (m : Md) (p n : Int) (w : World) : Calls Tryd.prog 30 #[.agg #[.bool m.aw, .bool m.ori, .bool m.ins, .bool m.vis, .bool m.app, .bool m.pas, .bool m.sgr, .int .i64 m.ptr, .int .i64 m.alt], .int .i32 p, .int .i64 n] w fun e w' => e = .returned (.bool (onM m n)) ∧ Below w.heap.size w w' := by
  unfold onM
  go_enter Tryd.func30, Tryd.ntmps30
  go_wp2_with fail
  all_goals
    go_ret
    exact ⟨ret_bool (by first | (simp_all; done) | (rw [Bool.eq_iff_iff]; simp_all; done) | (rw [Bool.eq_iff_iff]; simp_all; omega)), (by repeat (first | with_reducible exact Below.refl _ _ | with_reducible assumption | with_reducible exact GW.grow _ | with_reducible refine bl_alloc ?_ _ | with_reducible refine Below.drew ?_ | (with_reducible refine Below.setCell ?_ ?_ _; rotate_left; focus (simp; first | done | omega)) | with_reducible refine bl_trans ?_ (GW.grow _) | (with_reducible refine bl_trans ?_ (by assumption))))⟩

end Go.Proofs.YtgaakkgelifgpaaDoor
