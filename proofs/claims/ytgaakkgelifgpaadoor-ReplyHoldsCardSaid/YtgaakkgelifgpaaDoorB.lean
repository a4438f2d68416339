/- modes: which modes are valid. -/
import Derived.Test.YtgaakkgelifgpaaDoorA
import Derived.Outline
set_option linter.unusedSimpArgs false
set_option linter.unusedVariables false
set_option linter.unnecessarySimpa false
namespace Go.Proofs.YtgaakkgelifgpaaDoor
open Go.RowKit

set_option maxHeartbeats 2000000 in
theorem valid_any (m : Md) (w : World) (hg : Glob w) : Calls Tryd.prog 38 #[.agg #[.bool m.aw, .bool m.ori, .bool m.ins, .bool m.vis, .bool m.app, .bool m.pas, .bool m.sgr, .int .i64 m.ptr, .int .i64 m.alt]] w fun e w' => e = .returned (.bool (validM m)) ∧ Below w.heap.size w w' := by
  unfold validM
  obtain ⟨aw, ori, ins, vis, app, pas, sgr, ptr, alt⟩ := m
  simp only
  have cP := fun (W : World) (X : GW W) (h : Glob W) => inPg ptr X h
  have cS := fun (W : World) (X : GW W) (h : Glob W) => inSg alt X h
  have hg1 := fun o => hg.below (bl_alloc (Below.refl _ w) o)
  by_cases h1 : ptr = 0 <;> by_cases h2 : alt = 0 <;> cases hp : ptrL.contains ptr <;> cases hs : altL.contains alt <;> (try subst h1) <;> (try subst h2)
  all_goals
    rw [hp] at cP
    rw [hs] at cS
    try have k1 : (ptr == 0) = false := by simpa using h1
    try have k2 : (alt == 0) = false := by simpa using h2
    go_enter Tryd.func38, Tryd.ntmps38
    go_wp2_with fail
    first | refine wp_grow2 (by kernel_rfl) (by kernel_rfl) ?_ | refine wp_grow (by kernel_rfl) (by kernel_rfl) ?_
    repeat (go_big_quiet_step (first | (go_at_call 43; exact cP _ _ (hg1 _)) | (go_at_call 43; exact cS _ _ (hg1 _))))
    refine wpQuiet_nil ?_
    rintro _ ⟨X, rfl⟩
    go_wp2_with fail
    go_ret
    exact ⟨ret_bool (by simp_all), (by repeat (first | with_reducible exact Below.refl _ _ | with_reducible assumption | with_reducible exact GW.grow _ | with_reducible refine bl_alloc ?_ _ | with_reducible refine Below.drew ?_ | (with_reducible refine Below.setCell ?_ ?_ _; rotate_left; focus (simp; first | done | omega)) | with_reducible refine bl_trans ?_ (GW.grow _) | (with_reducible refine bl_trans ?_ (by assumption))))⟩
set_option maxHeartbeats 4000000 in
theorem rvalid_any (m : Md) (w : World) : Calls Tryd.prog 28 #[.agg #[.bool m.aw, .bool m.ori, .bool m.ins, .bool m.vis, .bool m.app, .bool m.pas, .bool m.sgr, .int .i64 m.ptr, .int .i64 m.alt]] w fun e w' => e = .returned (.bool (validM m)) ∧ Below w.heap.size w w' := by
  unfold validM
  go_enter Tryd.func28, Tryd.ntmps28
  go_wp2_with fail
  all_goals
    go_ret
    exact ⟨ret_bool (by rw [Bool.eq_iff_iff]; simp_all [ptrL, altL] <;> omega), (by repeat (first | with_reducible exact Below.refl _ _ | with_reducible assumption | with_reducible exact GW.grow _ | with_reducible refine bl_alloc ?_ _ | with_reducible refine Below.drew ?_ | (with_reducible refine Below.setCell ?_ ?_ _; rotate_left; focus (simp; first | done | omega)) | with_reducible refine bl_trans ?_ (GW.grow _) | (with_reducible refine bl_trans ?_ (by assumption))))⟩

end Go.Proofs.YtgaakkgelifgpaaDoor
