/- style: the numbers of a color, the changes from pen to pen. Printed by mk_h.py. -/
import Derived.Test.YtdoeiaekimbecaaDoorG
import Derived.Outline
set_option linter.unusedSimpArgs false
set_option linter.unusedVariables false
set_option linter.unnecessarySimpa false
namespace Go.Proofs.YtdoeiaekimbecaaDoor
open Go.RowKit

theorem elI : (Tryd.prog.info? 3).map (fun i => (i.zero, i.size, i.bytes)) = some (some (.int .i64 0), 1, 8) := by kernel_rfl
def numsN (c : Co) (base : Int) : List Int := if c.k = 0 then [base + 9] else if c.k = 2 then [base + 8, 2, c.r, c.g, c.b] else if c.i < 8 then [base + c.i] else if c.i < 16 then [base + 60 + c.i - 8] else [base + 8, 5, c.i]
def wfC (c : Co) : Prop := (0 ≤ c.i ∧ c.i ≤ 255) ∧ (0 ≤ c.r ∧ c.r ≤ 255) ∧ (0 ≤ c.g ∧ c.g ≤ 255) ∧ (0 ≤ c.b ∧ c.b ≤ 255)
def wfP (p : Pn) : Prop := wfC p.f ∧ wfC p.b ∧ (0 ≤ p.x ∧ p.x ≤ 255)
set_option maxHeartbeats 1000000 in
theorem numbers_any (c : Co) (base : Int) (w : World) (hb : 0 ≤ base ∧ base ≤ 100) (hc : wfC c) : Calls Tryd.prog 36 #[.agg #[.int .i64 c.k, .int .u8 c.i, .int .u8 c.r, .int .u8 c.g, .int .u8 c.b], .int .i64 base] w (RetOwn w 3 .i64 (numsN c base)) := by
  obtain ⟨k, i, r, g, b⟩ := c
  unfold wfC at hc
  simp only at hc
  obtain ⟨⟨i1, i2⟩, ⟨r1, r2⟩, ⟨g1, g2⟩, ⟨b1, b2⟩⟩ := hc
  obtain ⟨hb1, hb2⟩ := hb
  have HQ : Hid (numsN ⟨k, i, r, g, b⟩ base = if k = 0 then [base + 9] else if k = 2 then [base + 8, 2, r, g, b] else if i < 8 then [base + i] else if i < 16 then [base + 60 + i - 8] else [base + 8, 5, i]) := Lib.hid rfl
  generalize numsN ⟨k, i, r, g, b⟩ base = q at *
  simp only
  by_cases h0 : k = 0
  · have HR : Hid (q = [base + 9]) := Lib.hid (by rw [HQ.out, if_pos h0])
    subst h0
    clear HQ
    go_enter Tryd.func36, Tryd.ntmps36
    go_wp2_with fail
    go_ret
    rw [HR.out]
    exact ⟨_, rfl, Own.new _ _ _ [_] _ _ (by simp) (by simp) (by simp [maxLen]), (by repeat (first | with_reducible exact Below.refl _ _ | with_reducible assumption | with_reducible exact GW.grow _ | with_reducible refine bl_alloc ?_ _ | with_reducible refine Below.drew ?_ | (with_reducible refine Below.setCell ?_ ?_ _; rotate_left; focus (simp; first | done | omega)) | with_reducible refine bl_trans ?_ (GW.grow _) | (with_reducible refine bl_trans ?_ (by assumption))))⟩
  have n0 : (k == 0) = false := by rw [beq_eq_false_iff_ne]; exact h0
  rw [if_neg h0] at HQ
  by_cases h2 : k = 2
  · have HR : Hid (q = [base + 8, 2, r, g, b]) := Lib.hid (by rw [HQ.out, if_pos h2])
    subst h2
    clear HQ h0
    go_enter Tryd.func36, Tryd.ntmps36
    go_wp2_with fail
    go_ret
    rw [HR.out]
    exact ⟨_, rfl, Own.new _ _ _ [_, _, _, _, _] _ _ (by simp) (by simp) (by simp [maxLen]), (by repeat (first | with_reducible exact Below.refl _ _ | with_reducible assumption | with_reducible exact GW.grow _ | with_reducible refine bl_alloc ?_ _ | with_reducible refine Below.drew ?_ | (with_reducible refine Below.setCell ?_ ?_ _; rotate_left; focus (simp; first | done | omega)) | with_reducible refine bl_trans ?_ (GW.grow _) | (with_reducible refine bl_trans ?_ (by assumption))))⟩
  have n2 : (k == 2) = false := by rw [beq_eq_false_iff_ne]; exact h2
  rw [if_neg h2] at HQ
  clear h0 h2
  by_cases h8 : i < 8
  · have HR : Hid (q = [base + i]) := Lib.hid (by rw [HQ.out, if_pos h8])
    clear HQ
    go_enter Tryd.func36, Tryd.ntmps36
    go_wp2_with fail
    go_ret
    rw [HR.out]
    exact ⟨_, rfl, Own.new _ _ _ [_] _ _ (by simp) (by simp) (by simp [maxLen]), (by repeat (first | with_reducible exact Below.refl _ _ | with_reducible assumption | with_reducible exact GW.grow _ | with_reducible refine bl_alloc ?_ _ | with_reducible refine Below.drew ?_ | (with_reducible refine Below.setCell ?_ ?_ _; rotate_left; focus (simp; first | done | omega)) | with_reducible refine bl_trans ?_ (GW.grow _) | (with_reducible refine bl_trans ?_ (by assumption))))⟩
  rw [if_neg h8] at HQ
  by_cases h16 : i < 16
  · have HR : Hid (q = [base + 60 + i - 8]) := Lib.hid (by rw [HQ.out, if_pos h16])
    clear HQ
    go_enter Tryd.func36, Tryd.ntmps36
    go_wp2_with fail
    go_ret
    rw [HR.out]
    exact ⟨_, rfl, Own.new _ _ _ [_] _ _ (by simp) (by simp) (by simp [maxLen]), (by repeat (first | with_reducible exact Below.refl _ _ | with_reducible assumption | with_reducible exact GW.grow _ | with_reducible refine bl_alloc ?_ _ | with_reducible refine Below.drew ?_ | (with_reducible refine Below.setCell ?_ ?_ _; rotate_left; focus (simp; first | done | omega)) | with_reducible refine bl_trans ?_ (GW.grow _) | (with_reducible refine bl_trans ?_ (by assumption))))⟩
  · have HR : Hid (q = [base + 8, 5, i]) := Lib.hid (by rw [HQ.out, if_neg h16])
    clear HQ
    go_enter Tryd.func36, Tryd.ntmps36
    go_wp2_with fail
    go_ret
    rw [HR.out]
    exact ⟨_, rfl, Own.new _ _ _ [_, _, _] _ _ (by simp) (by simp) (by simp [maxLen]), (by repeat (first | with_reducible exact Below.refl _ _ | with_reducible assumption | with_reducible exact GW.grow _ | with_reducible refine bl_alloc ?_ _ | with_reducible refine Below.drew ?_ | (with_reducible refine Below.setCell ?_ ?_ _; rotate_left; focus (simp; first | done | omega)) | with_reducible refine bl_trans ?_ (GW.grow _) | (with_reducible refine bl_trans ?_ (by assumption))))⟩

end Go.Proofs.YtdoeiaekimbecaaDoor
