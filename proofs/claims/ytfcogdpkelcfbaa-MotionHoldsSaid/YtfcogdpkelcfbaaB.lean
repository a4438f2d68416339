/- Motion: contracts of the ways. -/
import Derived.Test.YtfcogdpkelcfbaaA
namespace Go.Proofs.Ytfcogdpkelcfbaa
open Go.RowKit

theorem check_ok (rows cols top bottom : Int) (o : Bool) (r c : Int) (p : Bool) (n : Int) (w : World) (h : validB rows cols top bottom r c p = true) (hn : 0 ≤ n) :
    Calls Try.prog 34 #[.agg #[.int .i64 rows, .int .i64 cols, .int .i64 top, .int .i64 bottom, .bool o], .agg #[.int .i64 r, .int .i64 c, .bool p], .int .i64 n] w fun e w' => e = .returned (.int .i64 0) ∧ Below w.heap.size w w' := by
  go_enter Try.func34, Try.ntmps34
  go_wp2_with (go_at_call 8; refine (valid_any _ _ _ _ _ _ _ _ _).mono ?_; rintro e w1 ⟨rfl, hb⟩; (first | obtain ⟨X, rfl⟩ := GW.of2 hb | obtain ⟨X, rfl⟩ := GW.of hb); clear hb)
  go_ret
  exact ⟨rfl, (by repeat (first | with_reducible exact Below.refl _ _ | with_reducible assumption | with_reducible exact GW.grow _ | with_reducible refine bl_alloc ?_ _ | with_reducible refine Below.drew ?_ | (with_reducible refine Below.setCell ?_ ?_ _; rotate_left; focus (simp; first | done | omega)) | with_reducible refine bl_trans ?_ (GW.grow _) | (with_reducible refine bl_trans ?_ (by assumption))))⟩

theorem check_err (rows cols top bottom : Int) (o : Bool) (r c : Int) (p : Bool) (n : Int) (w : World) (h : validB rows cols top bottom r c p = false ∨ n < 0) :
    Calls Try.prog 34 #[.agg #[.int .i64 rows, .int .i64 cols, .int .i64 top, .int .i64 bottom, .bool o], .agg #[.int .i64 r, .int .i64 c, .bool p], .int .i64 n] w fun e w' => e = .returned (.int .i64 2) ∧ Below w.heap.size w w' := by
  cases hv : validB rows cols top bottom r c p
  · go_enter Try.func34, Try.ntmps34
    go_wp2_with (go_at_call 8; refine (valid_any _ _ _ _ _ _ _ _ _).mono ?_; rintro e w1 ⟨rfl, hb⟩; (first | obtain ⟨X, rfl⟩ := GW.of2 hb | obtain ⟨X, rfl⟩ := GW.of hb); clear hb)
    go_ret
    exact ⟨rfl, (by repeat (first | with_reducible exact Below.refl _ _ | with_reducible assumption | with_reducible exact GW.grow _ | with_reducible refine bl_alloc ?_ _ | with_reducible refine Below.drew ?_ | (with_reducible refine Below.setCell ?_ ?_ _; rotate_left; focus (simp; first | done | omega)) | with_reducible refine bl_trans ?_ (GW.grow _) | (with_reducible refine bl_trans ?_ (by assumption))))⟩
  · have h' : n < 0 := by simpa [hv] using h
    clear h
    go_enter Try.func34, Try.ntmps34
    go_wp2_with (go_at_call 8; refine (valid_any _ _ _ _ _ _ _ _ _).mono ?_; rintro e w1 ⟨rfl, hb⟩; (first | obtain ⟨X, rfl⟩ := GW.of2 hb | obtain ⟨X, rfl⟩ := GW.of hb); clear hb)
    go_ret
    exact ⟨rfl, (by repeat (first | with_reducible exact Below.refl _ _ | with_reducible assumption | with_reducible exact GW.grow _ | with_reducible refine bl_alloc ?_ _ | with_reducible refine Below.drew ?_ | (with_reducible refine Below.setCell ?_ ?_ _; rotate_left; focus (simp; first | done | omega)) | with_reducible refine bl_trans ?_ (GW.grow _) | (with_reducible refine bl_trans ?_ (by assumption))))⟩


def upR (top r n : Int) : Int := max (if top ≤ r then top else 0) (r - min n r)
def downR (rows bottom r n : Int) : Int := min (if r ≤ bottom then bottom else rows - 1) (r + min n rows)
def rowOf (rows top bottom : Int) (o : Bool) (n : Int) : Int := if o then top + near n 0 (bottom - top) else near n 0 (rows - 1)

set_option maxHeartbeats 1000000 in
theorem rowOf_any (rows cols top bottom : Int) (o : Bool) (n : Int) (w : World) (h : rightB rows cols top bottom = true) :
    Calls Try.prog 35 #[.agg #[.int .i64 rows, .int .i64 cols, .int .i64 top, .int .i64 bottom, .bool o], .int .i64 n] w fun e w' => e = .returned (.int .i64 (rowOf rows top bottom o n)) ∧ Below w.heap.size w w' := by
  have := right_facts h
  cases o
  · go_enter Try.func35, Try.ntmps35
    go_wp2_with (go_at_call 36; refine (near_any _ _ _ _).mono ?_; rintro e w1 ⟨rfl, hb⟩; (first | obtain ⟨X, rfl⟩ := GW.of2 hb | obtain ⟨X, rfl⟩ := GW.of hb); clear hb)
    go_ret
    exact ⟨ret_int (by simp [rowOf]), (by repeat (first | with_reducible exact Below.refl _ _ | with_reducible assumption | with_reducible exact GW.grow _ | with_reducible refine bl_alloc ?_ _ | with_reducible refine Below.drew ?_ | (with_reducible refine Below.setCell ?_ ?_ _; rotate_left; focus (simp; first | done | omega)) | with_reducible refine bl_trans ?_ (GW.grow _) | (with_reducible refine bl_trans ?_ (by assumption))))⟩
  · go_enter Try.func35, Try.ntmps35
    go_wp2_with fail
    have e1 : IntKind.i64.wrap (bottom - top) = bottom - top := IntWalk.i64_in _ (by omega)
    have e2 : IntKind.i64.wrap (top + near n 0 (bottom - top)) = top + near n 0 (bottom - top) := IntWalk.i64_in _ (by unfold near; omega)
    first | refine wp_grow2 (by kernel_rfl) (by kernel_rfl) ?_ | refine wp_grow (by kernel_rfl) (by kernel_rfl) ?_
    repeat (go_big_quiet_step ((go_at_call 36; exact GW.call (near_any _ _ _ _))))
    refine wpQuiet_nil ?_
    rintro _ ⟨X, rfl⟩
    go_wp2_with fail
    go_ret
    exact ⟨ret_int (by simp [rowOf]), (by repeat (first | with_reducible exact Below.refl _ _ | with_reducible assumption | with_reducible exact GW.grow _ | with_reducible refine bl_alloc ?_ _ | with_reducible refine Below.drew ?_ | (with_reducible refine Below.setCell ?_ ?_ _; rotate_left; focus (simp; first | done | omega)) | with_reducible refine bl_trans ?_ (GW.grow _) | (with_reducible refine bl_trans ?_ (by assumption))))⟩

set_option maxHeartbeats 1000000 in
theorem rowRef_any (rows cols top bottom : Int) (o : Bool) (n : Int) (w : World) (h : rightB rows cols top bottom = true) :
    Calls Try.prog 16 #[.agg #[.int .i64 rows, .int .i64 cols, .int .i64 top, .int .i64 bottom, .bool o], .int .i64 n] w fun e w' => e = .returned (.int .i64 (rowOf rows top bottom o n)) ∧ Below w.heap.size w w' := by
  have := right_facts h
  cases o
  all_goals
    go_enter Try.func16, Try.ntmps16
    go_wp2_with (go_at_call 17; refine (nearRef_bl _ _ _ (by omega) _).mono ?_; rintro e w1 ⟨rfl, hb⟩; (first | obtain ⟨X, rfl⟩ := GW.of2 hb | obtain ⟨X, rfl⟩ := GW.of hb); clear hb)
    all_goals
      go_ret
      exact ⟨ret_int (by simp [rowOf, near] <;> omega), (by repeat (first | with_reducible exact Below.refl _ _ | with_reducible assumption | with_reducible exact GW.grow _ | with_reducible refine bl_alloc ?_ _ | with_reducible refine Below.drew ?_ | (with_reducible refine Below.setCell ?_ ?_ _; rotate_left; focus (simp; first | done | omega)) | with_reducible refine bl_trans ?_ (GW.grow _) | (with_reducible refine bl_trans ?_ (by assumption))))⟩

set_option maxHeartbeats 1000000 in
theorem up_ok (rows cols top bottom : Int) (o : Bool) (r c : Int) (p : Bool) (n : Int) (w : World) (h : validB rows cols top bottom r c p = true) (hn : 0 ≤ n) :
    Calls Try.prog 22 #[.agg #[.int .i64 rows, .int .i64 cols, .int .i64 top, .int .i64 bottom, .bool o], .agg #[.int .i64 r, .int .i64 c, .bool p], .int .i64 n] w fun e w' =>
      e = .returned (.tuple #[.agg #[.int .i64 (upR top r n), .int .i64 (c), .bool false], .int .i64 0]) ∧ Below w.heap.size w w' := by
  have := valid_facts h
  go_enter Try.func22, Try.ntmps22
  go_wp2_with (go_at_call 34; refine (check_ok _ _ _ _ _ _ _ _ _ _ (by assumption) (by omega)).mono ?_; rintro e w1 ⟨rfl, hb⟩; (first | obtain ⟨X, rfl⟩ := GW.of2 hb | obtain ⟨X, rfl⟩ := GW.of hb); clear hb)
  all_goals
    refine ret_row_tmp (n := 3) rfl rfl Try.underlying27 rfl (by kernel_rfl) rfl ⟨_, by simp (maxDischargeDepth := 6) [go_sem] <;> rfl, rfl, ?_⟩
    exact ⟨by simp [upR] <;> omega, (by repeat (first | with_reducible exact Below.refl _ _ | with_reducible assumption | with_reducible exact GW.grow _ | with_reducible refine bl_alloc ?_ _ | with_reducible refine Below.drew ?_ | (with_reducible refine Below.setCell ?_ ?_ _; rotate_left; focus (simp; first | done | omega)) | with_reducible refine bl_trans ?_ (GW.grow _) | (with_reducible refine bl_trans ?_ (by assumption))))⟩

set_option maxHeartbeats 1000000 in
theorem up_err (rows cols top bottom : Int) (o : Bool) (r c : Int) (p : Bool) (n : Int) (w : World) (h : validB rows cols top bottom r c p = false ∨ n < 0) :
    Calls Try.prog 22 #[.agg #[.int .i64 rows, .int .i64 cols, .int .i64 top, .int .i64 bottom, .bool o], .agg #[.int .i64 r, .int .i64 c, .bool p], .int .i64 n] w fun e w' =>
      e = .returned (.tuple #[.agg #[.int .i64 0, .int .i64 0, .bool false], .int .i64 2]) ∧ Below w.heap.size w w' := by
  go_enter Try.func22, Try.ntmps22
  go_wp2_with (go_at_call 34; refine (check_err _ _ _ _ _ _ _ _ _ _ (by assumption)).mono ?_; rintro e w1 ⟨rfl, hb⟩; (first | obtain ⟨X, rfl⟩ := GW.of2 hb | obtain ⟨X, rfl⟩ := GW.of hb); clear hb)
  refine ret_row_tmp (n := 3) rfl rfl Try.underlying27 rfl (by kernel_rfl) rfl ⟨_, by simp (maxDischargeDepth := 6) [go_sem] <;> rfl, rfl, ?_⟩
  exact ⟨rfl, (by repeat (first | with_reducible exact Below.refl _ _ | with_reducible assumption | with_reducible exact GW.grow _ | with_reducible refine bl_alloc ?_ _ | with_reducible refine Below.drew ?_ | (with_reducible refine Below.setCell ?_ ?_ _; rotate_left; focus (simp; first | done | omega)) | with_reducible refine bl_trans ?_ (GW.grow _) | (with_reducible refine bl_trans ?_ (by assumption))))⟩

set_option maxHeartbeats 1000000 in
theorem down_ok (rows cols top bottom : Int) (o : Bool) (r c : Int) (p : Bool) (n : Int) (w : World) (h : validB rows cols top bottom r c p = true) (hn : 0 ≤ n) :
    Calls Try.prog 23 #[.agg #[.int .i64 rows, .int .i64 cols, .int .i64 top, .int .i64 bottom, .bool o], .agg #[.int .i64 r, .int .i64 c, .bool p], .int .i64 n] w fun e w' =>
      e = .returned (.tuple #[.agg #[.int .i64 (downR rows bottom r n), .int .i64 (c), .bool false], .int .i64 0]) ∧ Below w.heap.size w w' := by
  have := valid_facts h
  go_enter Try.func23, Try.ntmps23
  go_wp2_with (go_at_call 34; refine (check_ok _ _ _ _ _ _ _ _ _ _ (by assumption) (by omega)).mono ?_; rintro e w1 ⟨rfl, hb⟩; (first | obtain ⟨X, rfl⟩ := GW.of2 hb | obtain ⟨X, rfl⟩ := GW.of hb); clear hb)
  all_goals
    refine ret_row_tmp (n := 3) rfl rfl Try.underlying27 rfl (by kernel_rfl) rfl ⟨_, by simp (maxDischargeDepth := 6) [go_sem] <;> rfl, rfl, ?_⟩
    exact ⟨by simp [downR] <;> omega, (by repeat (first | with_reducible exact Below.refl _ _ | with_reducible assumption | with_reducible exact GW.grow _ | with_reducible refine bl_alloc ?_ _ | with_reducible refine Below.drew ?_ | (with_reducible refine Below.setCell ?_ ?_ _; rotate_left; focus (simp; first | done | omega)) | with_reducible refine bl_trans ?_ (GW.grow _) | (with_reducible refine bl_trans ?_ (by assumption))))⟩

set_option maxHeartbeats 1000000 in
theorem down_err (rows cols top bottom : Int) (o : Bool) (r c : Int) (p : Bool) (n : Int) (w : World) (h : validB rows cols top bottom r c p = false ∨ n < 0) :
    Calls Try.prog 23 #[.agg #[.int .i64 rows, .int .i64 cols, .int .i64 top, .int .i64 bottom, .bool o], .agg #[.int .i64 r, .int .i64 c, .bool p], .int .i64 n] w fun e w' =>
      e = .returned (.tuple #[.agg #[.int .i64 0, .int .i64 0, .bool false], .int .i64 2]) ∧ Below w.heap.size w w' := by
  go_enter Try.func23, Try.ntmps23
  go_wp2_with (go_at_call 34; refine (check_err _ _ _ _ _ _ _ _ _ _ (by assumption)).mono ?_; rintro e w1 ⟨rfl, hb⟩; (first | obtain ⟨X, rfl⟩ := GW.of2 hb | obtain ⟨X, rfl⟩ := GW.of hb); clear hb)
  refine ret_row_tmp (n := 3) rfl rfl Try.underlying27 rfl (by kernel_rfl) rfl ⟨_, by simp (maxDischargeDepth := 6) [go_sem] <;> rfl, rfl, ?_⟩
  exact ⟨rfl, (by repeat (first | with_reducible exact Below.refl _ _ | with_reducible assumption | with_reducible exact GW.grow _ | with_reducible refine bl_alloc ?_ _ | with_reducible refine Below.drew ?_ | (with_reducible refine Below.setCell ?_ ?_ _; rotate_left; focus (simp; first | done | omega)) | with_reducible refine bl_trans ?_ (GW.grow _) | (with_reducible refine bl_trans ?_ (by assumption))))⟩

set_option maxHeartbeats 1000000 in
theorem left_ok (rows cols top bottom : Int) (o : Bool) (r c : Int) (p : Bool) (n : Int) (w : World) (h : validB rows cols top bottom r c p = true) (hn : 0 ≤ n) :
    Calls Try.prog 24 #[.agg #[.int .i64 rows, .int .i64 cols, .int .i64 top, .int .i64 bottom, .bool o], .agg #[.int .i64 r, .int .i64 c, .bool p], .int .i64 n] w fun e w' =>
      e = .returned (.tuple #[.agg #[.int .i64 (r), .int .i64 (c - min n c), .bool false], .int .i64 0]) ∧ Below w.heap.size w w' := by
  have := valid_facts h
  go_enter Try.func24, Try.ntmps24
  go_wp2_with (go_at_call 34; refine (check_ok _ _ _ _ _ _ _ _ _ _ (by assumption) (by omega)).mono ?_; rintro e w1 ⟨rfl, hb⟩; (first | obtain ⟨X, rfl⟩ := GW.of2 hb | obtain ⟨X, rfl⟩ := GW.of hb); clear hb)
  all_goals
    refine ret_row_tmp (n := 3) rfl rfl Try.underlying27 rfl (by kernel_rfl) rfl ⟨_, by simp (maxDischargeDepth := 6) [go_sem] <;> rfl, rfl, ?_⟩
    exact ⟨by simp <;> omega, (by repeat (first | with_reducible exact Below.refl _ _ | with_reducible assumption | with_reducible exact GW.grow _ | with_reducible refine bl_alloc ?_ _ | with_reducible refine Below.drew ?_ | (with_reducible refine Below.setCell ?_ ?_ _; rotate_left; focus (simp; first | done | omega)) | with_reducible refine bl_trans ?_ (GW.grow _) | (with_reducible refine bl_trans ?_ (by assumption))))⟩

set_option maxHeartbeats 1000000 in
theorem left_err (rows cols top bottom : Int) (o : Bool) (r c : Int) (p : Bool) (n : Int) (w : World) (h : validB rows cols top bottom r c p = false ∨ n < 0) :
    Calls Try.prog 24 #[.agg #[.int .i64 rows, .int .i64 cols, .int .i64 top, .int .i64 bottom, .bool o], .agg #[.int .i64 r, .int .i64 c, .bool p], .int .i64 n] w fun e w' =>
      e = .returned (.tuple #[.agg #[.int .i64 0, .int .i64 0, .bool false], .int .i64 2]) ∧ Below w.heap.size w w' := by
  go_enter Try.func24, Try.ntmps24
  go_wp2_with (go_at_call 34; refine (check_err _ _ _ _ _ _ _ _ _ _ (by assumption)).mono ?_; rintro e w1 ⟨rfl, hb⟩; (first | obtain ⟨X, rfl⟩ := GW.of2 hb | obtain ⟨X, rfl⟩ := GW.of hb); clear hb)
  refine ret_row_tmp (n := 3) rfl rfl Try.underlying27 rfl (by kernel_rfl) rfl ⟨_, by simp (maxDischargeDepth := 6) [go_sem] <;> rfl, rfl, ?_⟩
  exact ⟨rfl, (by repeat (first | with_reducible exact Below.refl _ _ | with_reducible assumption | with_reducible exact GW.grow _ | with_reducible refine bl_alloc ?_ _ | with_reducible refine Below.drew ?_ | (with_reducible refine Below.setCell ?_ ?_ _; rotate_left; focus (simp; first | done | omega)) | with_reducible refine bl_trans ?_ (GW.grow _) | (with_reducible refine bl_trans ?_ (by assumption))))⟩

set_option maxHeartbeats 1000000 in
theorem rightw_ok (rows cols top bottom : Int) (o : Bool) (r c : Int) (p : Bool) (n : Int) (w : World) (h : validB rows cols top bottom r c p = true) (hn : 0 ≤ n) :
    Calls Try.prog 25 #[.agg #[.int .i64 rows, .int .i64 cols, .int .i64 top, .int .i64 bottom, .bool o], .agg #[.int .i64 r, .int .i64 c, .bool p], .int .i64 n] w fun e w' =>
      e = .returned (.tuple #[.agg #[.int .i64 (r), .int .i64 (c + min n (cols - 1 - c)), .bool false], .int .i64 0]) ∧ Below w.heap.size w w' := by
  have := valid_facts h
  go_enter Try.func25, Try.ntmps25
  go_wp2_with (go_at_call 34; refine (check_ok _ _ _ _ _ _ _ _ _ _ (by assumption) (by omega)).mono ?_; rintro e w1 ⟨rfl, hb⟩; (first | obtain ⟨X, rfl⟩ := GW.of2 hb | obtain ⟨X, rfl⟩ := GW.of hb); clear hb)
  all_goals
    refine ret_row_tmp (n := 3) rfl rfl Try.underlying27 rfl (by kernel_rfl) rfl ⟨_, by simp (maxDischargeDepth := 6) [go_sem] <;> rfl, rfl, ?_⟩
    exact ⟨by simp <;> omega, (by repeat (first | with_reducible exact Below.refl _ _ | with_reducible assumption | with_reducible exact GW.grow _ | with_reducible refine bl_alloc ?_ _ | with_reducible refine Below.drew ?_ | (with_reducible refine Below.setCell ?_ ?_ _; rotate_left; focus (simp; first | done | omega)) | with_reducible refine bl_trans ?_ (GW.grow _) | (with_reducible refine bl_trans ?_ (by assumption))))⟩

set_option maxHeartbeats 1000000 in
theorem rightw_err (rows cols top bottom : Int) (o : Bool) (r c : Int) (p : Bool) (n : Int) (w : World) (h : validB rows cols top bottom r c p = false ∨ n < 0) :
    Calls Try.prog 25 #[.agg #[.int .i64 rows, .int .i64 cols, .int .i64 top, .int .i64 bottom, .bool o], .agg #[.int .i64 r, .int .i64 c, .bool p], .int .i64 n] w fun e w' =>
      e = .returned (.tuple #[.agg #[.int .i64 0, .int .i64 0, .bool false], .int .i64 2]) ∧ Below w.heap.size w w' := by
  go_enter Try.func25, Try.ntmps25
  go_wp2_with (go_at_call 34; refine (check_err _ _ _ _ _ _ _ _ _ _ (by assumption)).mono ?_; rintro e w1 ⟨rfl, hb⟩; (first | obtain ⟨X, rfl⟩ := GW.of2 hb | obtain ⟨X, rfl⟩ := GW.of hb); clear hb)
  refine ret_row_tmp (n := 3) rfl rfl Try.underlying27 rfl (by kernel_rfl) rfl ⟨_, by simp (maxDischargeDepth := 6) [go_sem] <;> rfl, rfl, ?_⟩
  exact ⟨rfl, (by repeat (first | with_reducible exact Below.refl _ _ | with_reducible assumption | with_reducible exact GW.grow _ | with_reducible refine bl_alloc ?_ _ | with_reducible refine Below.drew ?_ | (with_reducible refine Below.setCell ?_ ?_ _; rotate_left; focus (simp; first | done | omega)) | with_reducible refine bl_trans ?_ (GW.grow _) | (with_reducible refine bl_trans ?_ (by assumption))))⟩

set_option maxHeartbeats 1000000 in
theorem column_ok (rows cols top bottom : Int) (o : Bool) (r c : Int) (p : Bool) (n : Int) (w : World) (h : validB rows cols top bottom r c p = true) :
    Calls Try.prog 30 #[.agg #[.int .i64 rows, .int .i64 cols, .int .i64 top, .int .i64 bottom, .bool o], .agg #[.int .i64 r, .int .i64 c, .bool p], .int .i64 n] w fun e w' =>
      e = .returned (.tuple #[.agg #[.int .i64 (r), .int .i64 (near n 0 (cols - 1)), .bool false], .int .i64 0]) ∧ Below w.heap.size w w' := by
  have := valid_facts h
  go_enter Try.func30, Try.ntmps30
  go_wp2_with (go_at_call 34; refine (check_ok _ _ _ _ _ _ _ _ _ _ (by assumption) (by omega)).mono ?_; rintro e w1 ⟨rfl, hb⟩; (first | obtain ⟨X, rfl⟩ := GW.of2 hb | obtain ⟨X, rfl⟩ := GW.of hb); clear hb)
  have e1 : IntKind.i64.wrap (cols - 1) = cols - 1 := IntWalk.i64_in _ (by omega)
  first | refine wp_grow_tail2 8 (by kernel_rfl) (by kernel_rfl) ?_ | refine wp_grow_tail 8 (by kernel_rfl) (by kernel_rfl) ?_
  simp only [List.take_succ_cons, List.take_zero, List.drop_succ_cons, List.drop_zero]
  repeat (go_big_quiet_step ((go_at_call 36; exact GW.call (near_any _ _ _ _))))
  refine wpQuiet_nil ?_
  rintro _ ⟨X, rfl⟩
  go_wp2_with fail
  all_goals
    refine ret_row_tmp (n := 3) rfl rfl Try.underlying27 rfl (by kernel_rfl) rfl ⟨_, by simp (maxDischargeDepth := 6) [go_sem] <;> rfl, rfl, ?_⟩
    exact ⟨rfl, (by repeat (first | with_reducible exact Below.refl _ _ | with_reducible assumption | with_reducible exact GW.grow _ | with_reducible refine bl_alloc ?_ _ | with_reducible refine Below.drew ?_ | (with_reducible refine Below.setCell ?_ ?_ _; rotate_left; focus (simp; first | done | omega)) | with_reducible refine bl_trans ?_ (GW.grow _) | (with_reducible refine bl_trans ?_ (by assumption))))⟩

set_option maxHeartbeats 1000000 in
theorem column_err (rows cols top bottom : Int) (o : Bool) (r c : Int) (p : Bool) (n : Int) (w : World) (h : validB rows cols top bottom r c p = false) :
    Calls Try.prog 30 #[.agg #[.int .i64 rows, .int .i64 cols, .int .i64 top, .int .i64 bottom, .bool o], .agg #[.int .i64 r, .int .i64 c, .bool p], .int .i64 n] w fun e w' =>
      e = .returned (.tuple #[.agg #[.int .i64 0, .int .i64 0, .bool false], .int .i64 2]) ∧ Below w.heap.size w w' := by
  go_enter Try.func30, Try.ntmps30
  go_wp2_with (go_at_call 34; refine (check_err _ _ _ _ _ _ _ _ _ _ (.inl (by assumption))).mono ?_; rintro e w1 ⟨rfl, hb⟩; (first | obtain ⟨X, rfl⟩ := GW.of2 hb | obtain ⟨X, rfl⟩ := GW.of hb); clear hb)
  refine ret_row_tmp (n := 3) rfl rfl Try.underlying27 rfl (by kernel_rfl) rfl ⟨_, by simp (maxDischargeDepth := 6) [go_sem] <;> rfl, rfl, ?_⟩
  exact ⟨rfl, (by repeat (first | with_reducible exact Below.refl _ _ | with_reducible assumption | with_reducible exact GW.grow _ | with_reducible refine bl_alloc ?_ _ | with_reducible refine Below.drew ?_ | (with_reducible refine Below.setCell ?_ ?_ _; rotate_left; focus (simp; first | done | omega)) | with_reducible refine bl_trans ?_ (GW.grow _) | (with_reducible refine bl_trans ?_ (by assumption))))⟩

set_option maxHeartbeats 1000000 in
theorem row_ok (rows cols top bottom : Int) (o : Bool) (r c : Int) (p : Bool) (n : Int) (w : World) (h : validB rows cols top bottom r c p = true) :
    Calls Try.prog 31 #[.agg #[.int .i64 rows, .int .i64 cols, .int .i64 top, .int .i64 bottom, .bool o], .agg #[.int .i64 r, .int .i64 c, .bool p], .int .i64 n] w fun e w' =>
      e = .returned (.tuple #[.agg #[.int .i64 (rowOf rows top bottom o n), .int .i64 (c), .bool false], .int .i64 0]) ∧ Below w.heap.size w w' := by
  have := valid_facts h
  go_enter Try.func31, Try.ntmps31
  go_wp2_with (go_at_call 34; refine (check_ok _ _ _ _ _ _ _ _ _ _ (by assumption) (by omega)).mono ?_; rintro e w1 ⟨rfl, hb⟩; (first | obtain ⟨X, rfl⟩ := GW.of2 hb | obtain ⟨X, rfl⟩ := GW.of hb); clear hb)
  have hR : rightB rows cols top bottom = true := by simp_all [validB]
  first | refine wp_grow_tail2 6 (by kernel_rfl) (by kernel_rfl) ?_ | refine wp_grow_tail 6 (by kernel_rfl) (by kernel_rfl) ?_
  simp only [List.take_succ_cons, List.take_zero, List.drop_succ_cons, List.drop_zero]
  repeat (go_big_quiet_step ((go_at_call 35; exact GW.call (rowOf_any _ _ _ _ _ _ _ hR))))
  refine wpQuiet_nil ?_
  rintro _ ⟨X, rfl⟩
  go_wp2_with fail
  all_goals
    refine ret_row_tmp (n := 3) rfl rfl Try.underlying27 rfl (by kernel_rfl) rfl ⟨_, by simp (maxDischargeDepth := 6) [go_sem] <;> rfl, rfl, ?_⟩
    exact ⟨rfl, (by repeat (first | with_reducible exact Below.refl _ _ | with_reducible assumption | with_reducible exact GW.grow _ | with_reducible refine bl_alloc ?_ _ | with_reducible refine Below.drew ?_ | (with_reducible refine Below.setCell ?_ ?_ _; rotate_left; focus (simp; first | done | omega)) | with_reducible refine bl_trans ?_ (GW.grow _) | (with_reducible refine bl_trans ?_ (by assumption))))⟩

set_option maxHeartbeats 1000000 in
theorem row_err (rows cols top bottom : Int) (o : Bool) (r c : Int) (p : Bool) (n : Int) (w : World) (h : validB rows cols top bottom r c p = false) :
    Calls Try.prog 31 #[.agg #[.int .i64 rows, .int .i64 cols, .int .i64 top, .int .i64 bottom, .bool o], .agg #[.int .i64 r, .int .i64 c, .bool p], .int .i64 n] w fun e w' =>
      e = .returned (.tuple #[.agg #[.int .i64 0, .int .i64 0, .bool false], .int .i64 2]) ∧ Below w.heap.size w w' := by
  go_enter Try.func31, Try.ntmps31
  go_wp2_with (go_at_call 34; refine (check_err _ _ _ _ _ _ _ _ _ _ (.inl (by assumption))).mono ?_; rintro e w1 ⟨rfl, hb⟩; (first | obtain ⟨X, rfl⟩ := GW.of2 hb | obtain ⟨X, rfl⟩ := GW.of hb); clear hb)
  refine ret_row_tmp (n := 3) rfl rfl Try.underlying27 rfl (by kernel_rfl) rfl ⟨_, by simp (maxDischargeDepth := 6) [go_sem] <;> rfl, rfl, ?_⟩
  exact ⟨rfl, (by repeat (first | with_reducible exact Below.refl _ _ | with_reducible assumption | with_reducible exact GW.grow _ | with_reducible refine bl_alloc ?_ _ | with_reducible refine Below.drew ?_ | (with_reducible refine Below.setCell ?_ ?_ _; rotate_left; focus (simp; first | done | omega)) | with_reducible refine bl_trans ?_ (GW.grow _) | (with_reducible refine bl_trans ?_ (by assumption))))⟩

set_option maxHeartbeats 1000000 in
theorem return_ok (rows cols top bottom : Int) (o : Bool) (r c : Int) (p : Bool) (w : World) (h : validB rows cols top bottom r c p = true) :
    Calls Try.prog 32 #[.agg #[.int .i64 rows, .int .i64 cols, .int .i64 top, .int .i64 bottom, .bool o], .agg #[.int .i64 r, .int .i64 c, .bool p]] w fun e w' =>
      e = .returned (.tuple #[.agg #[.int .i64 r, .int .i64 (near 0 0 (cols - 1)), .bool false], .int .i64 0]) ∧ Below w.heap.size w w' := by
  go_enter Try.func32, Try.ntmps32
  go_wp2_with (go_at_call 30; refine (column_ok _ _ _ _ _ _ _ _ _ _ (by assumption)).mono ?_; rintro e w1 ⟨rfl, hb⟩; (first | obtain ⟨X, rfl⟩ := GW.of2 hb | obtain ⟨X, rfl⟩ := GW.of hb); clear hb)
  refine ret_row_tmp (n := 3) rfl rfl Try.underlying27 rfl (by kernel_rfl) rfl ⟨_, by simp (maxDischargeDepth := 6) [go_sem] <;> rfl, rfl, ?_⟩
  exact ⟨rfl, (by repeat (first | with_reducible exact Below.refl _ _ | with_reducible assumption | with_reducible exact GW.grow _ | with_reducible refine bl_alloc ?_ _ | with_reducible refine Below.drew ?_ | (with_reducible refine Below.setCell ?_ ?_ _; rotate_left; focus (simp; first | done | omega)) | with_reducible refine bl_trans ?_ (GW.grow _) | (with_reducible refine bl_trans ?_ (by assumption))))⟩

set_option maxHeartbeats 1000000 in
theorem return_err (rows cols top bottom : Int) (o : Bool) (r c : Int) (p : Bool) (w : World) (h : validB rows cols top bottom r c p = false) :
    Calls Try.prog 32 #[.agg #[.int .i64 rows, .int .i64 cols, .int .i64 top, .int .i64 bottom, .bool o], .agg #[.int .i64 r, .int .i64 c, .bool p]] w fun e w' =>
      e = .returned (.tuple #[.agg #[.int .i64 0, .int .i64 0, .bool false], .int .i64 2]) ∧ Below w.heap.size w w' := by
  go_enter Try.func32, Try.ntmps32
  go_wp2_with (go_at_call 30; refine (column_err _ _ _ _ _ _ _ _ _ _ (by assumption)).mono ?_; rintro e w1 ⟨rfl, hb⟩; (first | obtain ⟨X, rfl⟩ := GW.of2 hb | obtain ⟨X, rfl⟩ := GW.of hb); clear hb)
  refine ret_row_tmp (n := 3) rfl rfl Try.underlying27 rfl (by kernel_rfl) rfl ⟨_, by simp (maxDischargeDepth := 6) [go_sem] <;> rfl, rfl, ?_⟩
  exact ⟨rfl, (by repeat (first | with_reducible exact Below.refl _ _ | with_reducible assumption | with_reducible exact GW.grow _ | with_reducible refine bl_alloc ?_ _ | with_reducible refine Below.drew ?_ | (with_reducible refine Below.setCell ?_ ?_ _; rotate_left; focus (simp; first | done | omega)) | with_reducible refine bl_trans ?_ (GW.grow _) | (with_reducible refine bl_trans ?_ (by assumption))))⟩

set_option maxHeartbeats 1000000 in
theorem go_ok (rows cols top bottom : Int) (o : Bool) (m n : Int) (w : World) (h : rightB rows cols top bottom = true) :
    Calls Try.prog 27 #[.agg #[.int .i64 rows, .int .i64 cols, .int .i64 top, .int .i64 bottom, .bool o], .int .i64 m, .int .i64 n] w fun e w' =>
      e = .returned (.tuple #[.agg #[.int .i64 (rowOf rows top bottom o m), .int .i64 (near n 0 (cols - 1)), .bool false], .int .i64 0]) ∧ Below w.heap.size w w' := by
  have := right_facts h
  go_enter Try.func27, Try.ntmps27
  go_wp2_with (go_at_call 28; refine (right_any _ _ _ _ _ _).mono ?_; rintro e w1 ⟨rfl, hb⟩; (first | obtain ⟨X, rfl⟩ := GW.of2 hb | obtain ⟨X, rfl⟩ := GW.of hb); clear hb)
  have e1 : IntKind.i64.wrap (cols - 1) = cols - 1 := IntWalk.i64_in _ (by omega)
  first | refine wp_grow_tail2 9 (by kernel_rfl) (by kernel_rfl) ?_ | refine wp_grow_tail 9 (by kernel_rfl) (by kernel_rfl) ?_
  simp only [List.take_succ_cons, List.take_zero, List.drop_succ_cons, List.drop_zero]
  repeat (go_big_quiet_step (first | (go_at_call 35; exact GW.call (rowOf_any _ _ _ _ _ _ _ h)) | (go_at_call 36; exact GW.call (near_any _ _ _ _))))
  refine wpQuiet_nil ?_
  rintro _ ⟨X, rfl⟩
  go_wp2_with fail
  refine ret_row_tmp (n := 3) rfl rfl Try.underlying27 rfl (by kernel_rfl) rfl ⟨_, by simp (maxDischargeDepth := 6) [go_sem] <;> rfl, rfl, ?_⟩
  exact ⟨rfl, (by repeat (first | with_reducible exact Below.refl _ _ | with_reducible assumption | with_reducible exact GW.grow _ | with_reducible refine bl_alloc ?_ _ | with_reducible refine Below.drew ?_ | (with_reducible refine Below.setCell ?_ ?_ _; rotate_left; focus (simp; first | done | omega)) | with_reducible refine bl_trans ?_ (GW.grow _) | (with_reducible refine bl_trans ?_ (by assumption))))⟩

set_option maxHeartbeats 1000000 in
theorem go_err (rows cols top bottom : Int) (o : Bool) (m n : Int) (w : World) (h : rightB rows cols top bottom = false) :
    Calls Try.prog 27 #[.agg #[.int .i64 rows, .int .i64 cols, .int .i64 top, .int .i64 bottom, .bool o], .int .i64 m, .int .i64 n] w fun e w' =>
      e = .returned (.tuple #[.agg #[.int .i64 0, .int .i64 0, .bool false], .int .i64 2]) ∧ Below w.heap.size w w' := by
  go_enter Try.func27, Try.ntmps27
  go_wp2_with (go_at_call 28; refine (right_any _ _ _ _ _ _).mono ?_; rintro e w1 ⟨rfl, hb⟩; (first | obtain ⟨X, rfl⟩ := GW.of2 hb | obtain ⟨X, rfl⟩ := GW.of hb); clear hb)
  refine ret_row_tmp (n := 3) rfl rfl Try.underlying27 rfl (by kernel_rfl) rfl ⟨_, by simp (maxDischargeDepth := 6) [go_sem] <;> rfl, rfl, ?_⟩
  exact ⟨rfl, (by repeat (first | with_reducible exact Below.refl _ _ | with_reducible assumption | with_reducible exact GW.grow _ | with_reducible refine bl_alloc ?_ _ | with_reducible refine Below.drew ?_ | (with_reducible refine Below.setCell ?_ ?_ _; rotate_left; focus (simp; first | done | omega)) | with_reducible refine bl_trans ?_ (GW.grow _) | (with_reducible refine bl_trans ?_ (by assumption))))⟩

set_option maxHeartbeats 1000000 in
theorem where_ok (rows cols top bottom : Int) (o : Bool) (r c : Int) (p : Bool) (w : World) (h : validB rows cols top bottom r c p = true) :
    Calls Try.prog 26 #[.agg #[.int .i64 rows, .int .i64 cols, .int .i64 top, .int .i64 bottom, .bool o], .agg #[.int .i64 r, .int .i64 c, .bool p]] w fun e w' =>
      e = .returned (.tuple #[.int .i64 (if o then r - top else r), .int .i64 c, .int .i64 0]) ∧ Below w.heap.size w w' := by
  have := valid_facts h
  have e1 : IntKind.i64.wrap (r - top) = r - top := IntWalk.i64_in _ (by omega)
  cases o
  all_goals
    go_enter Try.func26, Try.ntmps26
    go_wp2_with (go_at_call 34; refine (check_ok _ _ _ _ _ _ _ _ _ _ (by assumption) (by omega)).mono ?_; rintro e w1 ⟨rfl, hb⟩; (first | obtain ⟨X, rfl⟩ := GW.of2 hb | obtain ⟨X, rfl⟩ := GW.of hb); clear hb)
    first | refine wp_grow2 (by kernel_rfl) (by kernel_rfl) ?_ | refine wp_grow (by kernel_rfl) (by kernel_rfl) ?_
    repeat (go_big_quiet_step (fail))
    refine wpQuiet_nil ?_
    rintro _ ⟨X, rfl⟩
    go_wp2_with fail
    go_ret3
    exact ⟨rfl, (by repeat (first | with_reducible exact Below.refl _ _ | with_reducible assumption | with_reducible exact GW.grow _ | with_reducible refine bl_alloc ?_ _ | with_reducible refine Below.drew ?_ | (with_reducible refine Below.setCell ?_ ?_ _; rotate_left; focus (simp; first | done | omega)) | with_reducible refine bl_trans ?_ (GW.grow _) | (with_reducible refine bl_trans ?_ (by assumption))))⟩

set_option maxHeartbeats 1000000 in
theorem where_err (rows cols top bottom : Int) (o : Bool) (r c : Int) (p : Bool) (w : World) (h : validB rows cols top bottom r c p = false) :
    Calls Try.prog 26 #[.agg #[.int .i64 rows, .int .i64 cols, .int .i64 top, .int .i64 bottom, .bool o], .agg #[.int .i64 r, .int .i64 c, .bool p]] w fun e w' =>
      e = .returned (.tuple #[.int .i64 0, .int .i64 0, .int .i64 2]) ∧ Below w.heap.size w w' := by
  go_enter Try.func26, Try.ntmps26
  go_wp2_with (go_at_call 34; refine (check_err _ _ _ _ _ _ _ _ _ _ (.inl (by assumption))).mono ?_; rintro e w1 ⟨rfl, hb⟩; (first | obtain ⟨X, rfl⟩ := GW.of2 hb | obtain ⟨X, rfl⟩ := GW.of hb); clear hb)
  go_ret3
  exact ⟨rfl, (by repeat (first | with_reducible exact Below.refl _ _ | with_reducible assumption | with_reducible exact GW.grow _ | with_reducible refine bl_alloc ?_ _ | with_reducible refine Below.drew ?_ | (with_reducible refine Below.setCell ?_ ?_ _; rotate_left; focus (simp; first | done | omega)) | with_reducible refine bl_trans ?_ (GW.grow _) | (with_reducible refine bl_trans ?_ (by assumption))))⟩

set_option maxHeartbeats 1000000 in
theorem clamp_err (rows cols top bottom : Int) (o : Bool) (r c : Int) (p : Bool) (w : World) (h : rightB rows cols top bottom = false) :
    Calls Try.prog 33 #[.agg #[.int .i64 rows, .int .i64 cols, .int .i64 top, .int .i64 bottom, .bool o], .agg #[.int .i64 r, .int .i64 c, .bool p]] w fun e w' =>
      e = .returned (.tuple #[.agg #[.int .i64 0, .int .i64 0, .bool false], .int .i64 2]) ∧ Below w.heap.size w w' := by
  go_enter Try.func33, Try.ntmps33
  go_wp2_with (go_at_call 28; refine (right_any _ _ _ _ _ _).mono ?_; rintro e w1 ⟨rfl, hb⟩; (first | obtain ⟨X, rfl⟩ := GW.of2 hb | obtain ⟨X, rfl⟩ := GW.of hb); clear hb)
  refine ret_row_tmp (n := 3) rfl rfl Try.underlying27 rfl (by kernel_rfl) rfl ⟨_, by simp (maxDischargeDepth := 6) [go_sem] <;> rfl, rfl, ?_⟩
  exact ⟨rfl, (by repeat (first | with_reducible exact Below.refl _ _ | with_reducible assumption | with_reducible exact GW.grow _ | with_reducible refine bl_alloc ?_ _ | with_reducible refine Below.drew ?_ | (with_reducible refine Below.setCell ?_ ?_ _; rotate_left; focus (simp; first | done | omega)) | with_reducible refine bl_trans ?_ (GW.grow _) | (with_reducible refine bl_trans ?_ (by assumption))))⟩

set_option maxHeartbeats 1000000 in
theorem clamp_ok (rows cols top bottom : Int) (o : Bool) (r c : Int) (p : Bool) (w : World) (h : rightB rows cols top bottom = true) :
    Calls Try.prog 33 #[.agg #[.int .i64 rows, .int .i64 cols, .int .i64 top, .int .i64 bottom, .bool o], .agg #[.int .i64 r, .int .i64 c, .bool p]] w fun e w' =>
      e = .returned (.tuple #[.agg #[.int .i64 (near r 0 (rows - 1)), .int .i64 (near c 0 (cols - 1)), .bool (p && (near c 0 (cols - 1) == cols - 1))], .int .i64 0]) ∧ Below w.heap.size w w' := by
  have := right_facts h
  go_enter Try.func33, Try.ntmps33
  go_wp2_with (go_at_call 28; refine (right_any _ _ _ _ _ _).mono ?_; rintro e w1 ⟨rfl, hb⟩; (first | obtain ⟨X, rfl⟩ := GW.of2 hb | obtain ⟨X, rfl⟩ := GW.of hb); clear hb)
  have e1 : IntKind.i64.wrap (cols - 1) = cols - 1 := IntWalk.i64_in _ (by omega)
  have e2 : IntKind.i64.wrap (rows - 1) = rows - 1 := IntWalk.i64_in _ (by omega)
  first | refine wp_grow2 (by kernel_rfl) (by kernel_rfl) ?_ | refine wp_grow (by kernel_rfl) (by kernel_rfl) ?_
  repeat (go_big_quiet_step ((go_at_call 36; exact GW.call (near_any _ _ _ _))))
  refine wpQuiet_nil ?_
  rintro _ ⟨X, rfl⟩
  clear e1 e2
  go_wp2_with fail
  all_goals
    refine ret_row_tmp (n := 3) rfl rfl Try.underlying27 rfl (by kernel_rfl) rfl ⟨_, by simp (maxDischargeDepth := 6) [go_sem] <;> rfl, rfl, ?_⟩
    exact ⟨by simp_all, (by repeat (first | with_reducible exact Below.refl _ _ | with_reducible assumption | with_reducible exact GW.grow _ | with_reducible refine bl_alloc ?_ _ | with_reducible refine Below.drew ?_ | (with_reducible refine Below.setCell ?_ ?_ _; rotate_left; focus (simp; first | done | omega)) | with_reducible refine bl_trans ?_ (GW.grow _) | (with_reducible refine bl_trans ?_ (by assumption))))⟩

end Go.Proofs.Ytfcogdpkelcfbaa
