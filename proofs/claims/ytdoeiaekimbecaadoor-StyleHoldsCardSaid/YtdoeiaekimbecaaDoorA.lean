/- style: colors, pens, groups. -/
import Derived.Test.YtdoeiaekimbecaaDoorE
import Derived.Outline
set_option linter.unusedSimpArgs false
set_option linter.unusedVariables false
set_option linter.unnecessarySimpa false
namespace Go.Proofs.YtdoeiaekimbecaaDoor
open Go.RowKit

structure Co where
  k : Int
  i : Int
  r : Int
  g : Int
  b : Int
deriving DecidableEq
abbrev Co.a (c : Co) : Array Value := #[.int .i64 c.k, .int .u8 c.i, .int .u8 c.r, .int .u8 c.g, .int .u8 c.b]
def coI (n : Int) : Co := ⟨1, n, 0, 0, 0⟩
def coT (r g b : Int) : Co := ⟨2, 0, r, g, b⟩
def coZ : Co := ⟨0, 0, 0, 0, 0⟩
def validC (c : Co) : Bool := if c.k = 0 then decide (c.i = 0 ∧ c.r = 0 ∧ c.g = 0 ∧ c.b = 0) else if c.k = 1 then decide (c.r = 0 ∧ c.g = 0 ∧ c.b = 0) else if c.k = 2 then decide (c.i = 0) else false
theorem index_any (n : Int) (w : World) : Calls Tryd.prog 33 #[.int .u8 n] w fun e w' => e = .returned (.agg #[.int .i64 1, .int .u8 n, .int .u8 0, .int .u8 0, .int .u8 0]) ∧ Below w.heap.size w w' := by
  go_enter Tryd.func33, Tryd.ntmps33
  go_wp2_with fail
  refine ret_row (n := 5) rfl rfl Tryd.underlying24 rfl (by kernel_rfl) rfl ⟨_, by simp (maxDischargeDepth := 6) [go_sem] <;> rfl, rfl, ?_⟩
  exact ⟨rfl, (by repeat (first | with_reducible exact Below.refl _ _ | with_reducible assumption | with_reducible exact GW.grow _ | with_reducible refine bl_alloc ?_ _ | with_reducible refine Below.drew ?_ | (with_reducible refine Below.setCell ?_ ?_ _; rotate_left; focus (simp; first | done | omega)) | with_reducible refine bl_trans ?_ (GW.grow _) | (with_reducible refine bl_trans ?_ (by assumption))))⟩
theorem true_any (r g b : Int) (w : World) : Calls Tryd.prog 34 #[.int .u8 r, .int .u8 g, .int .u8 b] w fun e w' => e = .returned (.agg #[.int .i64 2, .int .u8 0, .int .u8 r, .int .u8 g, .int .u8 b]) ∧ Below w.heap.size w w' := by
  go_enter Tryd.func34, Tryd.ntmps34
  go_wp2_with fail
  refine ret_row (n := 5) rfl rfl Tryd.underlying24 rfl (by kernel_rfl) rfl ⟨_, by simp (maxDischargeDepth := 6) [go_sem] <;> rfl, rfl, ?_⟩
  exact ⟨rfl, (by repeat (first | with_reducible exact Below.refl _ _ | with_reducible assumption | with_reducible exact GW.grow _ | with_reducible refine bl_alloc ?_ _ | with_reducible refine Below.drew ?_ | (with_reducible refine Below.setCell ?_ ?_ _; rotate_left; focus (simp; first | done | omega)) | with_reducible refine bl_trans ?_ (GW.grow _) | (with_reducible refine bl_trans ?_ (by assumption))))⟩
set_option maxHeartbeats 1000000 in
theorem validC_any (c : Co) (w : World) : Calls Tryd.prog 22 #[.agg #[.int .i64 c.k, .int .u8 c.i, .int .u8 c.r, .int .u8 c.g, .int .u8 c.b]] w fun e w' => e = .returned (.bool (validC c)) ∧ Below w.heap.size w w' := by
  obtain ⟨k, i, r, g, b⟩ := c
  simp only
  by_cases h0 : k = 0
  · subst h0
    go_enter Tryd.func22, Tryd.ntmps22
    go_wp2_with fail
    go_ret
    exact ⟨ret_bool (by unfold validC; rw [Bool.eq_iff_iff]; simp [and_assoc]), bl_alloc (Below.refl _ _) _⟩
  by_cases h1 : k = 1
  · subst h1
    have cI := fun W => index_any i W
    go_enter Tryd.func22, Tryd.ntmps22
    go_wp2_with fail
    first | refine wp_grow2 (by kernel_rfl) (by kernel_rfl) ?_ | refine wp_grow (by kernel_rfl) (by kernel_rfl) ?_
    repeat (go_big_quiet_step ((go_at_call 33; with_reducible exact GW.call (cI _))))
    refine wpQuiet_nil ?_
    rintro _ ⟨X, rfl⟩
    go_wp2_with fail
    go_ret
    exact ⟨ret_bool (by unfold validC; rw [Bool.eq_iff_iff]; simp [and_assoc]), bl_trans (bl_alloc (Below.refl _ _) _) (GW.grow X)⟩
  by_cases h2 : k = 2
  · subst h2
    have cI := fun W => true_any r g b W
    go_enter Tryd.func22, Tryd.ntmps22
    go_wp2_with fail
    first | refine wp_grow2 (by kernel_rfl) (by kernel_rfl) ?_ | refine wp_grow (by kernel_rfl) (by kernel_rfl) ?_
    repeat (go_big_quiet_step ((go_at_call 34; with_reducible exact GW.call (cI _))))
    refine wpQuiet_nil ?_
    rintro _ ⟨X, rfl⟩
    go_wp2_with fail
    go_ret
    exact ⟨ret_bool (by unfold validC; rw [Bool.eq_iff_iff]; simp [and_assoc]), bl_trans (bl_alloc (Below.refl _ _) _) (GW.grow X)⟩
  · have n0 : (k == 0) = false := by rw [beq_eq_false_iff_ne]; exact h0
    have n1 : (k == 1) = false := by rw [beq_eq_false_iff_ne]; exact h1
    have n2 : (k == 2) = false := by rw [beq_eq_false_iff_ne]; exact h2
    have HV : Hid (validC ⟨k, i, r, g, b⟩ = false) := Lib.hid (by unfold validC; simp [h0, h1, h2])
    clear h0 h1 h2
    go_enter Tryd.func22, Tryd.ntmps22
    go_wp2_with fail
    go_ret
    exact ⟨ret_bool (by rw [HV.out]), bl_alloc (Below.refl _ _) _⟩

end Go.Proofs.YtdoeiaekimbecaaDoor
