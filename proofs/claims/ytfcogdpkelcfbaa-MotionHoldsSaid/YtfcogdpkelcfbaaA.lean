/- Motion: contracts of the functions of the package, of the reference and of the law's helpers. -/
import Derived.Test.YtfcogdpkelcfbaaBase
namespace Go.Proofs.Ytfcogdpkelcfbaa
open Go.RowKit

def near (n lo hi : Int) : Int := max lo (min n hi)

theorem near_any (n lo hi : Int) (w : World) :
    Calls Try.prog 36 #[.int .i64 n, .int .i64 lo, .int .i64 hi] w fun e w' => e = .returned (.int .i64 (near n lo hi)) ∧ Below w.heap.size w w' := by
  go_enter Try.func36, Try.ntmps36
  go_wp2
  all_goals
    go_ret
    exact ⟨ret_int (by simp only [near]; omega), Below.refl _ _⟩

theorem nearRef_any (n lo hi : Int) (h : lo ≤ hi) (w : World) :
    Calls Try.prog 17 #[.int .i64 n, .int .i64 lo, .int .i64 hi] w fun e w' => e = .returned (.int .i64 (near n lo hi)) ∧ w = w' := by
  go_enter Try.func17, Try.ntmps17
  go_wp2
  all_goals
    go_ret
    exact ⟨ret_int (by simp only [near]; omega), rfl⟩
theorem nearRef_bl (n lo hi : Int) (h : lo ≤ hi) (w : World) :
    Calls Try.prog 17 #[.int .i64 n, .int .i64 lo, .int .i64 hi] w fun e w' => e = .returned (.int .i64 (near n lo hi)) ∧ Below w.heap.size w w' :=
  (nearRef_any n lo hi h w).mono fun _ _ ⟨he, hw⟩ => ⟨he, hw ▸ Below.refl _ _⟩

def rightB (rows cols top bottom : Int) : Bool := decide (1 ≤ rows ∧ rows ≤ 1000 ∧ 1 ≤ cols ∧ cols ≤ 1000 ∧ 0 ≤ top ∧ top ≤ bottom ∧ bottom < rows)

set_option maxHeartbeats 1000000 in
theorem right_any (rows cols top bottom : Int) (o : Bool) (w : World) :
    Calls Try.prog 28 #[.agg #[.int .i64 rows, .int .i64 cols, .int .i64 top, .int .i64 bottom, .bool o]] w fun e w' => e = .returned (.bool (rightB rows cols top bottom)) ∧ Below w.heap.size w w' := by
  go_enter Try.func28, Try.ntmps28
  go_wp2
  all_goals
    go_ret
    exact ⟨ret_bool (by rw [Bool.eq_iff_iff]; simp [rightB]; omega), (by repeat (first | with_reducible exact Below.refl _ _ | with_reducible assumption | with_reducible exact GW.grow _ | with_reducible refine bl_alloc ?_ _ | with_reducible refine Below.drew ?_ | (with_reducible refine Below.setCell ?_ ?_ _; rotate_left; focus (simp; first | done | omega)) | with_reducible refine bl_trans ?_ (GW.grow _) | (with_reducible refine bl_trans ?_ (by assumption))))⟩

set_option maxHeartbeats 1000000 in
theorem rightRef_any (rows cols top bottom : Int) (o : Bool) (w : World) :
    Calls Try.prog 13 #[.agg #[.int .i64 rows, .int .i64 cols, .int .i64 top, .int .i64 bottom, .bool o]] w fun e w' => e = .returned (.bool (rightB rows cols top bottom)) ∧ Below w.heap.size w w' := by
  go_enter Try.func13, Try.ntmps13
  go_wp2
  all_goals
    go_ret
    exact ⟨ret_bool (by rw [Bool.eq_iff_iff]; simp [rightB]; omega), (by repeat (first | with_reducible exact Below.refl _ _ | with_reducible assumption | with_reducible exact GW.grow _ | with_reducible refine bl_alloc ?_ _ | with_reducible refine Below.drew ?_ | (with_reducible refine Below.setCell ?_ ?_ _; rotate_left; focus (simp; first | done | omega)) | with_reducible refine bl_trans ?_ (GW.grow _) | (with_reducible refine bl_trans ?_ (by assumption))))⟩

theorem right_facts {rows cols top bottom : Int} (h : rightB rows cols top bottom = true) : 1 ≤ rows ∧ rows ≤ 1000 ∧ 1 ≤ cols ∧ cols ≤ 1000 ∧ 0 ≤ top ∧ top ≤ bottom ∧ bottom < rows := by
  simpa [rightB] using h

def validB (rows cols top bottom r c : Int) (p : Bool) : Bool := rightB rows cols top bottom && decide (0 ≤ r ∧ r < rows ∧ 0 ≤ c ∧ c < cols) && (!p || decide (c = cols - 1))

theorem valid_facts {rows cols top bottom r c : Int} {p : Bool} (h : validB rows cols top bottom r c p = true) : 1 ≤ rows ∧ rows ≤ 1000 ∧ 1 ≤ cols ∧ cols ≤ 1000 ∧ 0 ≤ top ∧ top ≤ bottom ∧ bottom < rows ∧ 0 ≤ r ∧ r < rows ∧ 0 ≤ c ∧ c < cols := by
  simp only [validB, Bool.and_eq_true] at h
  obtain ⟨⟨h1, h2⟩, _⟩ := h
  have := right_facts h1
  simp at h2
  omega

set_option maxHeartbeats 1000000 in
theorem valid_any (rows cols top bottom : Int) (o : Bool) (r c : Int) (p : Bool) (w : World) :
    Calls Try.prog 8 #[.agg #[.int .i64 rows, .int .i64 cols, .int .i64 top, .int .i64 bottom, .bool o], .agg #[.int .i64 r, .int .i64 c, .bool p]] w fun e w' => e = .returned (.bool (validB rows cols top bottom r c p)) ∧ Below w.heap.size w w' := by
  cases hR : rightB rows cols top bottom
  · go_enter Try.func8, Try.ntmps8
    go_wp2_with (go_at_call 28; refine (right_any _ _ _ _ _ _).mono ?_; rintro e w1 ⟨rfl, hb⟩; (first | obtain ⟨X, rfl⟩ := GW.of2 hb | obtain ⟨X, rfl⟩ := GW.of hb); clear hb)
    go_ret
    exact ⟨ret_bool (by simp [validB, hR]), (by repeat (first | with_reducible exact Below.refl _ _ | with_reducible assumption | with_reducible exact GW.grow _ | with_reducible refine bl_alloc ?_ _ | with_reducible refine Below.drew ?_ | (with_reducible refine Below.setCell ?_ ?_ _; rotate_left; focus (simp; first | done | omega)) | with_reducible refine bl_trans ?_ (GW.grow _) | (with_reducible refine bl_trans ?_ (by assumption))))⟩
  · have := right_facts hR
    go_enter Try.func8, Try.ntmps8
    go_wp2_with (go_at_call 28; refine (right_any _ _ _ _ _ _).mono ?_; rintro e w1 ⟨rfl, hb⟩; (first | obtain ⟨X, rfl⟩ := GW.of2 hb | obtain ⟨X, rfl⟩ := GW.of hb); clear hb)
    all_goals
      go_ret
      exact ⟨ret_bool (by rw [Bool.eq_iff_iff]; simp [validB, *] <;> omega), (by repeat (first | with_reducible exact Below.refl _ _ | with_reducible assumption | with_reducible exact GW.grow _ | with_reducible refine bl_alloc ?_ _ | with_reducible refine Below.drew ?_ | (with_reducible refine Below.setCell ?_ ?_ _; rotate_left; focus (simp; first | done | omega)) | with_reducible refine bl_trans ?_ (GW.grow _) | (with_reducible refine bl_trans ?_ (by assumption))))⟩

end Go.Proofs.Ytfcogdpkelcfbaa
