/- paste: the door: what the listed variables and the world's shape give. -/
import Derived.Test.YtnihneffgbhjjaaDoorL
import Derived.Test.YtnihneffgbhjjaaDoorOpen
import Derived.Test.YtnihneffgbhjjaaDoorLift
import Derived.Test.YtnihneffgbhjjaaDoorShaped
import Derived.LaidMore
import Derived.OpenShut
import Derived.Stop.Joined
import Derived.Lib.LaidU8T
import Derived.Lay
import Derived.ChangeSame
set_option linter.unusedSimpArgs false
set_option linter.unusedVariables false
set_option linter.unnecessarySimpa false
namespace Go.Proofs.YtnihneffgbhjjaaDoor
open Go.ChangeShapes Go.WideShapes Go.ChangeAt Go.RowKit

abbrev laid2 : List (String × DataW Unit) := [("unicode/utf8.acceptRanges", Rows.laid_unicode_utf8_acceptRanges), ("unicode/utf8.first", Rows.laid_unicode_utf8_first)]
theorem firstData_eq : (Rows.laid_unicode_utf8_first : DataW Unit) = Lib.firstData := by kernel_rfl
theorem acceptData_eq : (Rows.laid_unicode_utf8_acceptRanges : DataW Unit) = Lib.acceptData := by kernel_rfl
def renU : Go.Shelf.Ren := ⟨fun n => n, fun | 5 => 5 | 119 => 70 | 138 => 73 | 139 => 74 | n => n, fun | 3 => 0 | 4 => 1 | n => n⟩
theorem gl_of_laid {W : World} (h : laidMetH Tryd.prog laid2 W) (hs : W.ShapedOpen Tryd.prog) : Gl W := by
  rw [MakeChecks.laidMetH_plain _ _ _ (by kernel_rfl)] at h
  obtain ⟨ps, ⟨g3, t3, cs3, f3, p3, q3, hg3, ht3, hv3, hd3, ⟨g4, t4, cs4, f4, p4, q4, hg4, ht4, hv4, hd4, _, _⟩, _⟩, _, _⟩ := h
  rw [firstData_eq] at hd4
  rw [acceptData_eq] at hd3
  refine ⟨?_, Go.Proofs.cell_of_shapedOpen_int (zero := #[.int .i64 0]) (t := 3) hs (of_decide_eq_true (by kernel_rfl)) (by kernel_rfl) rfl (by kernel_rfl) (by kernel_rfl) Tryd.underlying3⟩
  exact utf8Tabs_of_readsT (ρ := renU) ⟨Tryd.underlying5, Tryd.underlying70, Tryd.underlying73, Tryd.underlying74⟩ ⟨by kernel_rfl, by kernel_rfl, by kernel_rfl, by kernel_rfl, by kernel_rfl, by kernel_rfl, by kernel_rfl⟩
      ⟨g4, t4, cs4, f4, p4, hg4, ht4, hv4, hd4⟩ ⟨g3, t3, cs3, f3, p3, hg3, ht3, hv3, hd3⟩
theorem door_met (os : Os) (args : Array Value) : laidMetH Tryd.prog laid2 ((World.laidAll Tryd.prog os laid2).forCall (fun _ _ => 0) ⟨#[], args, []⟩).memory := by
  rw [MakeChecks.laidMetH_plain _ _ _ (by kernel_rfl)]
  exact laidMet_laidAll _ (by kernel_rfl) (by kernel_rfl)

end Go.Proofs.YtnihneffgbhjjaaDoor
