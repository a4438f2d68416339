/- Motion: contracts of the reference's and the law's own functions. -/
import Derived.Test.YtfcogdpkelcfbaaB
namespace Go.Proofs.Ytfcogdpkelcfbaa
open Go.RowKit

set_option maxHeartbeats 1000000 in
theorem validRef_any (rows cols top bottom : Int) (o : Bool) (r c : Int) (p : Bool) (w : World) :
    Calls Try.prog 9 #[.agg #[.int .i64 rows, .int .i64 cols, .int .i64 top, .int .i64 bottom, .bool o], .agg #[.int .i64 r, .int .i64 c, .bool p]] w fun e w' => e = .returned (.bool (validB rows cols top bottom r c p)) ∧ Below w.heap.size w w' := by
  cases hR : rightB rows cols top bottom
  · go_enter Try.func9, Try.ntmps9
    go_wp2_with (go_at_call 13; refine (rightRef_any _ _ _ _ _ _).mono ?_; rintro e w1 ⟨rfl, hb⟩; (first | obtain ⟨X, rfl⟩ := GW.of2 hb | obtain ⟨X, rfl⟩ := GW.of hb); clear hb)
    go_ret
    exact ⟨ret_bool (by simp [validB, hR]), (by repeat (first | with_reducible exact Below.refl _ _ | with_reducible assumption | with_reducible exact GW.grow _ | with_reducible refine bl_alloc ?_ _ | with_reducible refine Below.drew ?_ | (with_reducible refine Below.setCell ?_ ?_ _; rotate_left; focus (simp; first | done | omega)) | with_reducible refine bl_trans ?_ (GW.grow _) | (with_reducible refine bl_trans ?_ (by assumption))))⟩
  · have := right_facts hR
    cases p
    all_goals
      go_enter Try.func9, Try.ntmps9
      go_wp2_with (go_at_call 13; refine (rightRef_any _ _ _ _ _ _).mono ?_; rintro e w1 ⟨rfl, hb⟩; (first | obtain ⟨X, rfl⟩ := GW.of2 hb | obtain ⟨X, rfl⟩ := GW.of hb); clear hb)
      all_goals
        go_ret
        exact ⟨ret_bool (by rw [Bool.eq_iff_iff]; simp [validB, *] <;> omega), (by repeat (first | with_reducible exact Below.refl _ _ | with_reducible assumption | with_reducible exact GW.grow _ | with_reducible refine bl_alloc ?_ _ | with_reducible refine Below.drew ?_ | (with_reducible refine Below.setCell ?_ ?_ _; rotate_left; focus (simp; first | done | omega)) | with_reducible refine bl_trans ?_ (GW.grow _) | (with_reducible refine bl_trans ?_ (by assumption))))⟩

set_option maxHeartbeats 1000000 in
theorem clampRef_ok (rows cols top bottom : Int) (o : Bool) (r c : Int) (p : Bool) (w : World) (h : rightB rows cols top bottom = true) :
    Calls Try.prog 19 #[.agg #[.int .i64 rows, .int .i64 cols, .int .i64 top, .int .i64 bottom, .bool o], .agg #[.int .i64 r, .int .i64 c, .bool p]] w fun e w' =>
      e = .returned (.agg #[.int .i64 (near r 0 (rows - 1)), .int .i64 (near c 0 (cols - 1)), .bool (p && (near c 0 (cols - 1) == cols - 1))]) ∧ Below w.heap.size w w' := by
  have := right_facts h
  have e1 : IntKind.i64.wrap (cols - 1) = cols - 1 := IntWalk.i64_in _ (by omega)
  have e2 : IntKind.i64.wrap (rows - 1) = rows - 1 := IntWalk.i64_in _ (by omega)
  cases p
  all_goals
    go_enter Try.func19, Try.ntmps19
    go_wp2_with fail
    go_region_held3 (fun w' => w'.cell? ⟨w.heap.size + 1, 0, none⟩ = some (.int .i64 r) ∧ w'.cell? ⟨w.heap.size + 1, 1, none⟩ = some (.int .i64 c) ∧ w'.cell? ⟨w.heap.size, 0, none⟩ = some (.int .i64 rows) ∧ w'.cell? ⟨w.heap.size, 1, none⟩ = some (.int .i64 cols)) (simp [*, go_sem, World.cell?_alloc_some]) (first | (go_at_call 17; refine (nearRef_any _ _ _ (by omega) _).mono ?_; rintro e w1 ⟨rfl, rfl⟩))
    all_goals
      go_wp2_with fail
      refine ret_row (n := 3) rfl rfl Try.underlying27 rfl (by kernel_rfl) rfl ⟨_, by simp (maxDischargeDepth := 6) [go_sem] <;> rfl, rfl, ?_⟩
      exact ⟨rfl, (by repeat (first | with_reducible exact Below.refl _ _ | with_reducible assumption | with_reducible exact GW.grow _ | with_reducible refine bl_alloc ?_ _ | with_reducible refine Below.drew ?_ | (with_reducible refine Below.setCell ?_ ?_ _; rotate_left; focus (simp; first | done | omega)) | with_reducible refine bl_trans ?_ (GW.grow _) | (with_reducible refine bl_trans ?_ (by assumption))))⟩

def isB (r1 c1 : Int) (p1 : Bool) (e1 : Int) (r2 c2 : Int) (p2 : Bool) (e2 : Int) : Bool := decide (r1 = r2 ∧ c1 = c2 ∧ p1 = p2 ∧ e1 = e2)

set_option maxHeartbeats 1000000 in
theorem is_any (r1 c1 : Int) (p1 : Bool) (e1 : Int) (r2 c2 : Int) (p2 : Bool) (e2 : Int) (w : World) :
    Calls Try.prog 29 #[.agg #[.int .i64 r1, .int .i64 c1, .bool p1], .int .i64 e1, .agg #[.int .i64 r2, .int .i64 c2, .bool p2], .int .i64 e2] w fun e w' =>
      e = .returned (.bool (isB r1 c1 p1 e1 r2 c2 p2 e2)) ∧ Below w.heap.size w w' := by
  go_enter Try.func29, Try.ntmps29
  go_wp2_with fail
  all_goals
    go_ret
    exact ⟨ret_bool (by rw [Bool.eq_iff_iff]; simp [isB, *]), (by repeat (first | with_reducible exact Below.refl _ _ | with_reducible assumption | with_reducible exact GW.grow _ | with_reducible refine bl_alloc ?_ _ | with_reducible refine Below.drew ?_ | (with_reducible refine Below.setCell ?_ ?_ _; rotate_left; focus (simp; first | done | omega)) | with_reducible refine bl_trans ?_ (GW.grow _) | (with_reducible refine bl_trans ?_ (by assumption))))⟩

theorem at_any (r c : Int) (w : World) :
    Calls Try.prog 18 #[.int .i64 r, .int .i64 c] w fun e w' => e = .returned (.agg #[.int .i64 r, .int .i64 c, .bool false]) ∧ Below w.heap.size w w' := by
  go_enter Try.func18, Try.ntmps18
  go_wp2_with fail
  refine ret_row (n := 3) rfl rfl Try.underlying27 rfl (by kernel_rfl) rfl ⟨_, by simp (maxDischargeDepth := 6) [go_sem] <;> rfl, rfl, ?_⟩
  exact ⟨rfl, (by repeat (first | with_reducible exact Below.refl _ _ | with_reducible assumption | with_reducible exact GW.grow _ | with_reducible refine bl_alloc ?_ _ | with_reducible refine Below.drew ?_ | (with_reducible refine Below.setCell ?_ ?_ _; rotate_left; focus (simp; first | done | omega)) | with_reducible refine bl_trans ?_ (GW.grow _) | (with_reducible refine bl_trans ?_ (by assumption))))⟩


def wayR (rows cols top bottom : Int) (o : Bool) (r c way n : Int) : Int × Int :=
  if way = 0 then (upR top r n, c) else if way = 1 then (downR rows bottom r n, c) else if way = 2 then (r, c - min n c) else if way = 3 then (r, c + min n (cols - 1 - c))
  else if way = 4 then (r, near n 0 (cols - 1)) else if way = 5 then (rowOf rows top bottom o n, c) else (r, near 0 0 (cols - 1))

def wentB (rows cols top bottom : Int) (o : Bool) (r c : Int) (p : Bool) (way n wr wc : Int) (wp : Bool) (no : Int) : Bool :=
  if validB rows cols top bottom r c p = true ∧ (0 ≤ n ∨ way < 0 ∨ 3 < way) then isB (wayR rows cols top bottom o r c way n).1 (wayR rows cols top bottom o r c way n).2 false 0 wr wc wp no
  else isB 0 0 false 2 wr wc wp no

set_option maxHeartbeats 4000000 in
theorem went_any (rows cols top bottom : Int) (o : Bool) (r c : Int) (p : Bool) (way n wr wc : Int) (wp : Bool) (no : Int) (w : World) :
    Calls Try.prog 10 #[.agg #[.int .i64 rows, .int .i64 cols, .int .i64 top, .int .i64 bottom, .bool o], .agg #[.int .i64 r, .int .i64 c, .bool p], .int .i64 way, .int .i64 n, .agg #[.int .i64 wr, .int .i64 wc, .bool wp], .int .i64 no] w fun e w' =>
      e = .returned (.bool (wentB rows cols top bottom o r c p way n wr wc wp no)) ∧ Below w.heap.size w w' := by
  by_cases h0 : way = 0
  · subst h0
    by_cases hv : validB rows cols top bottom r c p = true ∧ 0 ≤ n
    · obtain ⟨hv, hn⟩ := hv
      go_enter Try.func10, Try.ntmps10
      go_wp2_with (first | (go_at_call 22; refine (up_ok _ _ _ _ _ _ _ _ _ _ hv hn).mono ?_; rintro e w1 ⟨rfl, hb⟩; (first | obtain ⟨X, rfl⟩ := GW.of2 hb | obtain ⟨X, rfl⟩ := GW.of hb); clear hb) | (go_at_call 29; refine (is_any _ _ _ _ _ _ _ _ _).mono ?_; rintro e w1 ⟨rfl, hb⟩; (first | obtain ⟨X, rfl⟩ := GW.of2 hb | obtain ⟨X, rfl⟩ := GW.of hb); clear hb))
      go_ret
      exact ⟨ret_bool (by simp [wentB, wayR, hv, hn]), (by repeat (first | with_reducible exact Below.refl _ _ | with_reducible assumption | with_reducible exact GW.grow _ | with_reducible refine bl_alloc ?_ _ | with_reducible refine Below.drew ?_ | (with_reducible refine Below.setCell ?_ ?_ _; rotate_left; focus (simp; first | done | omega)) | with_reducible refine bl_trans ?_ (GW.grow _) | (with_reducible refine bl_trans ?_ (by assumption))))⟩
    · have hv' : validB rows cols top bottom r c p = false ∨ n < 0 := by rcases Bool.eq_false_or_eq_true (validB rows cols top bottom r c p) with h | h <;> simp_all
      go_enter Try.func10, Try.ntmps10
      go_wp2_with (first | (go_at_call 22; refine (up_err _ _ _ _ _ _ _ _ _ _ hv').mono ?_; rintro e w1 ⟨rfl, hb⟩; (first | obtain ⟨X, rfl⟩ := GW.of2 hb | obtain ⟨X, rfl⟩ := GW.of hb); clear hb) | (go_at_call 29; refine (is_any _ _ _ _ _ _ _ _ _).mono ?_; rintro e w1 ⟨rfl, hb⟩; (first | obtain ⟨X, rfl⟩ := GW.of2 hb | obtain ⟨X, rfl⟩ := GW.of hb); clear hb))
      go_ret
      exact ⟨ret_bool (by rw [wentB, if_neg (by simp_all)]), (by repeat (first | with_reducible exact Below.refl _ _ | with_reducible assumption | with_reducible exact GW.grow _ | with_reducible refine bl_alloc ?_ _ | with_reducible refine Below.drew ?_ | (with_reducible refine Below.setCell ?_ ?_ _; rotate_left; focus (simp; first | done | omega)) | with_reducible refine bl_trans ?_ (GW.grow _) | (with_reducible refine bl_trans ?_ (by assumption))))⟩
  by_cases h1 : way = 1
  · subst h1
    by_cases hv : validB rows cols top bottom r c p = true ∧ 0 ≤ n
    · obtain ⟨hv, hn⟩ := hv
      go_enter Try.func10, Try.ntmps10
      go_wp2_with (first | (go_at_call 23; refine (down_ok _ _ _ _ _ _ _ _ _ _ hv hn).mono ?_; rintro e w1 ⟨rfl, hb⟩; (first | obtain ⟨X, rfl⟩ := GW.of2 hb | obtain ⟨X, rfl⟩ := GW.of hb); clear hb) | (go_at_call 29; refine (is_any _ _ _ _ _ _ _ _ _).mono ?_; rintro e w1 ⟨rfl, hb⟩; (first | obtain ⟨X, rfl⟩ := GW.of2 hb | obtain ⟨X, rfl⟩ := GW.of hb); clear hb))
      go_ret
      exact ⟨ret_bool (by simp [wentB, wayR, hv, hn]), (by repeat (first | with_reducible exact Below.refl _ _ | with_reducible assumption | with_reducible exact GW.grow _ | with_reducible refine bl_alloc ?_ _ | with_reducible refine Below.drew ?_ | (with_reducible refine Below.setCell ?_ ?_ _; rotate_left; focus (simp; first | done | omega)) | with_reducible refine bl_trans ?_ (GW.grow _) | (with_reducible refine bl_trans ?_ (by assumption))))⟩
    · have hv' : validB rows cols top bottom r c p = false ∨ n < 0 := by rcases Bool.eq_false_or_eq_true (validB rows cols top bottom r c p) with h | h <;> simp_all
      go_enter Try.func10, Try.ntmps10
      go_wp2_with (first | (go_at_call 23; refine (down_err _ _ _ _ _ _ _ _ _ _ hv').mono ?_; rintro e w1 ⟨rfl, hb⟩; (first | obtain ⟨X, rfl⟩ := GW.of2 hb | obtain ⟨X, rfl⟩ := GW.of hb); clear hb) | (go_at_call 29; refine (is_any _ _ _ _ _ _ _ _ _).mono ?_; rintro e w1 ⟨rfl, hb⟩; (first | obtain ⟨X, rfl⟩ := GW.of2 hb | obtain ⟨X, rfl⟩ := GW.of hb); clear hb))
      go_ret
      exact ⟨ret_bool (by rw [wentB, if_neg (by simp_all)]), (by repeat (first | with_reducible exact Below.refl _ _ | with_reducible assumption | with_reducible exact GW.grow _ | with_reducible refine bl_alloc ?_ _ | with_reducible refine Below.drew ?_ | (with_reducible refine Below.setCell ?_ ?_ _; rotate_left; focus (simp; first | done | omega)) | with_reducible refine bl_trans ?_ (GW.grow _) | (with_reducible refine bl_trans ?_ (by assumption))))⟩
  by_cases h2 : way = 2
  · subst h2
    by_cases hv : validB rows cols top bottom r c p = true ∧ 0 ≤ n
    · obtain ⟨hv, hn⟩ := hv
      go_enter Try.func10, Try.ntmps10
      go_wp2_with (first | (go_at_call 24; refine (left_ok _ _ _ _ _ _ _ _ _ _ hv hn).mono ?_; rintro e w1 ⟨rfl, hb⟩; (first | obtain ⟨X, rfl⟩ := GW.of2 hb | obtain ⟨X, rfl⟩ := GW.of hb); clear hb) | (go_at_call 29; refine (is_any _ _ _ _ _ _ _ _ _).mono ?_; rintro e w1 ⟨rfl, hb⟩; (first | obtain ⟨X, rfl⟩ := GW.of2 hb | obtain ⟨X, rfl⟩ := GW.of hb); clear hb))
      go_ret
      exact ⟨ret_bool (by simp [wentB, wayR, hv, hn]), (by repeat (first | with_reducible exact Below.refl _ _ | with_reducible assumption | with_reducible exact GW.grow _ | with_reducible refine bl_alloc ?_ _ | with_reducible refine Below.drew ?_ | (with_reducible refine Below.setCell ?_ ?_ _; rotate_left; focus (simp; first | done | omega)) | with_reducible refine bl_trans ?_ (GW.grow _) | (with_reducible refine bl_trans ?_ (by assumption))))⟩
    · have hv' : validB rows cols top bottom r c p = false ∨ n < 0 := by rcases Bool.eq_false_or_eq_true (validB rows cols top bottom r c p) with h | h <;> simp_all
      go_enter Try.func10, Try.ntmps10
      go_wp2_with (first | (go_at_call 24; refine (left_err _ _ _ _ _ _ _ _ _ _ hv').mono ?_; rintro e w1 ⟨rfl, hb⟩; (first | obtain ⟨X, rfl⟩ := GW.of2 hb | obtain ⟨X, rfl⟩ := GW.of hb); clear hb) | (go_at_call 29; refine (is_any _ _ _ _ _ _ _ _ _).mono ?_; rintro e w1 ⟨rfl, hb⟩; (first | obtain ⟨X, rfl⟩ := GW.of2 hb | obtain ⟨X, rfl⟩ := GW.of hb); clear hb))
      go_ret
      exact ⟨ret_bool (by rw [wentB, if_neg (by simp_all)]), (by repeat (first | with_reducible exact Below.refl _ _ | with_reducible assumption | with_reducible exact GW.grow _ | with_reducible refine bl_alloc ?_ _ | with_reducible refine Below.drew ?_ | (with_reducible refine Below.setCell ?_ ?_ _; rotate_left; focus (simp; first | done | omega)) | with_reducible refine bl_trans ?_ (GW.grow _) | (with_reducible refine bl_trans ?_ (by assumption))))⟩
  by_cases h3 : way = 3
  · subst h3
    by_cases hv : validB rows cols top bottom r c p = true ∧ 0 ≤ n
    · obtain ⟨hv, hn⟩ := hv
      go_enter Try.func10, Try.ntmps10
      go_wp2_with (first | (go_at_call 25; refine (rightw_ok _ _ _ _ _ _ _ _ _ _ hv hn).mono ?_; rintro e w1 ⟨rfl, hb⟩; (first | obtain ⟨X, rfl⟩ := GW.of2 hb | obtain ⟨X, rfl⟩ := GW.of hb); clear hb) | (go_at_call 29; refine (is_any _ _ _ _ _ _ _ _ _).mono ?_; rintro e w1 ⟨rfl, hb⟩; (first | obtain ⟨X, rfl⟩ := GW.of2 hb | obtain ⟨X, rfl⟩ := GW.of hb); clear hb))
      go_ret
      exact ⟨ret_bool (by simp [wentB, wayR, hv, hn]), (by repeat (first | with_reducible exact Below.refl _ _ | with_reducible assumption | with_reducible exact GW.grow _ | with_reducible refine bl_alloc ?_ _ | with_reducible refine Below.drew ?_ | (with_reducible refine Below.setCell ?_ ?_ _; rotate_left; focus (simp; first | done | omega)) | with_reducible refine bl_trans ?_ (GW.grow _) | (with_reducible refine bl_trans ?_ (by assumption))))⟩
    · have hv' : validB rows cols top bottom r c p = false ∨ n < 0 := by rcases Bool.eq_false_or_eq_true (validB rows cols top bottom r c p) with h | h <;> simp_all
      go_enter Try.func10, Try.ntmps10
      go_wp2_with (first | (go_at_call 25; refine (rightw_err _ _ _ _ _ _ _ _ _ _ hv').mono ?_; rintro e w1 ⟨rfl, hb⟩; (first | obtain ⟨X, rfl⟩ := GW.of2 hb | obtain ⟨X, rfl⟩ := GW.of hb); clear hb) | (go_at_call 29; refine (is_any _ _ _ _ _ _ _ _ _).mono ?_; rintro e w1 ⟨rfl, hb⟩; (first | obtain ⟨X, rfl⟩ := GW.of2 hb | obtain ⟨X, rfl⟩ := GW.of hb); clear hb))
      go_ret
      exact ⟨ret_bool (by rw [wentB, if_neg (by simp_all)]), (by repeat (first | with_reducible exact Below.refl _ _ | with_reducible assumption | with_reducible exact GW.grow _ | with_reducible refine bl_alloc ?_ _ | with_reducible refine Below.drew ?_ | (with_reducible refine Below.setCell ?_ ?_ _; rotate_left; focus (simp; first | done | omega)) | with_reducible refine bl_trans ?_ (GW.grow _) | (with_reducible refine bl_trans ?_ (by assumption))))⟩
  by_cases h4 : way = 4
  · subst h4
    cases hv : validB rows cols top bottom r c p
    · go_enter Try.func10, Try.ntmps10
      go_wp2_with (first | (go_at_call 30; refine (column_err _ _ _ _ _ _ _ _ _ _ hv).mono ?_; rintro e w1 ⟨rfl, hb⟩; (first | obtain ⟨X, rfl⟩ := GW.of2 hb | obtain ⟨X, rfl⟩ := GW.of hb); clear hb) | (go_at_call 29; refine (is_any _ _ _ _ _ _ _ _ _).mono ?_; rintro e w1 ⟨rfl, hb⟩; (first | obtain ⟨X, rfl⟩ := GW.of2 hb | obtain ⟨X, rfl⟩ := GW.of hb); clear hb))
      go_ret
      exact ⟨ret_bool (by rw [wentB, if_neg (by simp_all)]), (by repeat (first | with_reducible exact Below.refl _ _ | with_reducible assumption | with_reducible exact GW.grow _ | with_reducible refine bl_alloc ?_ _ | with_reducible refine Below.drew ?_ | (with_reducible refine Below.setCell ?_ ?_ _; rotate_left; focus (simp; first | done | omega)) | with_reducible refine bl_trans ?_ (GW.grow _) | (with_reducible refine bl_trans ?_ (by assumption))))⟩
    · go_enter Try.func10, Try.ntmps10
      go_wp2_with (first | (go_at_call 30; refine (column_ok _ _ _ _ _ _ _ _ _ _ hv).mono ?_; rintro e w1 ⟨rfl, hb⟩; (first | obtain ⟨X, rfl⟩ := GW.of2 hb | obtain ⟨X, rfl⟩ := GW.of hb); clear hb) | (go_at_call 29; refine (is_any _ _ _ _ _ _ _ _ _).mono ?_; rintro e w1 ⟨rfl, hb⟩; (first | obtain ⟨X, rfl⟩ := GW.of2 hb | obtain ⟨X, rfl⟩ := GW.of hb); clear hb))
      go_ret
      exact ⟨ret_bool (by simp [wentB, wayR, hv]), (by repeat (first | with_reducible exact Below.refl _ _ | with_reducible assumption | with_reducible exact GW.grow _ | with_reducible refine bl_alloc ?_ _ | with_reducible refine Below.drew ?_ | (with_reducible refine Below.setCell ?_ ?_ _; rotate_left; focus (simp; first | done | omega)) | with_reducible refine bl_trans ?_ (GW.grow _) | (with_reducible refine bl_trans ?_ (by assumption))))⟩
  by_cases h5 : way = 5
  · subst h5
    cases hv : validB rows cols top bottom r c p
    · go_enter Try.func10, Try.ntmps10
      go_wp2_with (first | (go_at_call 31; refine (row_err _ _ _ _ _ _ _ _ _ _ hv).mono ?_; rintro e w1 ⟨rfl, hb⟩; (first | obtain ⟨X, rfl⟩ := GW.of2 hb | obtain ⟨X, rfl⟩ := GW.of hb); clear hb) | (go_at_call 29; refine (is_any _ _ _ _ _ _ _ _ _).mono ?_; rintro e w1 ⟨rfl, hb⟩; (first | obtain ⟨X, rfl⟩ := GW.of2 hb | obtain ⟨X, rfl⟩ := GW.of hb); clear hb))
      go_ret
      exact ⟨ret_bool (by rw [wentB, if_neg (by simp_all)]), (by repeat (first | with_reducible exact Below.refl _ _ | with_reducible assumption | with_reducible exact GW.grow _ | with_reducible refine bl_alloc ?_ _ | with_reducible refine Below.drew ?_ | (with_reducible refine Below.setCell ?_ ?_ _; rotate_left; focus (simp; first | done | omega)) | with_reducible refine bl_trans ?_ (GW.grow _) | (with_reducible refine bl_trans ?_ (by assumption))))⟩
    · go_enter Try.func10, Try.ntmps10
      go_wp2_with (first | (go_at_call 31; refine (row_ok _ _ _ _ _ _ _ _ _ _ hv).mono ?_; rintro e w1 ⟨rfl, hb⟩; (first | obtain ⟨X, rfl⟩ := GW.of2 hb | obtain ⟨X, rfl⟩ := GW.of hb); clear hb) | (go_at_call 29; refine (is_any _ _ _ _ _ _ _ _ _).mono ?_; rintro e w1 ⟨rfl, hb⟩; (first | obtain ⟨X, rfl⟩ := GW.of2 hb | obtain ⟨X, rfl⟩ := GW.of hb); clear hb))
      go_ret
      exact ⟨ret_bool (by simp [wentB, wayR, hv]), (by repeat (first | with_reducible exact Below.refl _ _ | with_reducible assumption | with_reducible exact GW.grow _ | with_reducible refine bl_alloc ?_ _ | with_reducible refine Below.drew ?_ | (with_reducible refine Below.setCell ?_ ?_ _; rotate_left; focus (simp; first | done | omega)) | with_reducible refine bl_trans ?_ (GW.grow _) | (with_reducible refine bl_trans ?_ (by assumption))))⟩
  have hw : way < 0 ∨ 3 < way := by omega
  cases hv : validB rows cols top bottom r c p
  · go_enter Try.func10, Try.ntmps10
    go_wp2_with (first | (go_at_call 32; refine (return_err _ _ _ _ _ _ _ _ _ hv).mono ?_; rintro e w1 ⟨rfl, hb⟩; (first | obtain ⟨X, rfl⟩ := GW.of2 hb | obtain ⟨X, rfl⟩ := GW.of hb); clear hb) | (go_at_call 29; refine (is_any _ _ _ _ _ _ _ _ _).mono ?_; rintro e w1 ⟨rfl, hb⟩; (first | obtain ⟨X, rfl⟩ := GW.of2 hb | obtain ⟨X, rfl⟩ := GW.of hb); clear hb))
    go_ret
    exact ⟨ret_bool (by rw [wentB, if_neg (by simp_all)]), (by repeat (first | with_reducible exact Below.refl _ _ | with_reducible assumption | with_reducible exact GW.grow _ | with_reducible refine bl_alloc ?_ _ | with_reducible refine Below.drew ?_ | (with_reducible refine Below.setCell ?_ ?_ _; rotate_left; focus (simp; first | done | omega)) | with_reducible refine bl_trans ?_ (GW.grow _) | (with_reducible refine bl_trans ?_ (by assumption))))⟩
  · go_enter Try.func10, Try.ntmps10
    go_wp2_with (first | (go_at_call 32; refine (return_ok _ _ _ _ _ _ _ _ _ hv).mono ?_; rintro e w1 ⟨rfl, hb⟩; (first | obtain ⟨X, rfl⟩ := GW.of2 hb | obtain ⟨X, rfl⟩ := GW.of hb); clear hb) | (go_at_call 29; refine (is_any _ _ _ _ _ _ _ _ _).mono ?_; rintro e w1 ⟨rfl, hb⟩; (first | obtain ⟨X, rfl⟩ := GW.of2 hb | obtain ⟨X, rfl⟩ := GW.of hb); clear hb))
    go_ret
    exact ⟨ret_bool (by simp [wentB, wayR, hv, h0, h1, h2, h3, h4, h5, hw]), (by repeat (first | with_reducible exact Below.refl _ _ | with_reducible assumption | with_reducible exact GW.grow _ | with_reducible refine bl_alloc ?_ _ | with_reducible refine Below.drew ?_ | (with_reducible refine Below.setCell ?_ ?_ _; rotate_left; focus (simp; first | done | omega)) | with_reducible refine bl_trans ?_ (GW.grow _) | (with_reducible refine bl_trans ?_ (by assumption))))⟩

theorem went_true (rows cols top bottom : Int) (o : Bool) (r c : Int) (p : Bool) (way n wr wc : Int) (wp : Bool) (no : Int) (w : World) (h : wentB rows cols top bottom o r c p way n wr wc wp no = true) :
    Calls Try.prog 10 #[.agg #[.int .i64 rows, .int .i64 cols, .int .i64 top, .int .i64 bottom, .bool o], .agg #[.int .i64 r, .int .i64 c, .bool p], .int .i64 way, .int .i64 n, .agg #[.int .i64 wr, .int .i64 wc, .bool wp], .int .i64 no] w fun e w' =>
      e = .returned (.bool true) ∧ Below w.heap.size w w' := by
  have := went_any rows cols top bottom o r c p way n wr wc wp no w
  rwa [h] at this

def goesB (rows cols top bottom : Int) (o : Bool) (m n wr wc : Int) (wp : Bool) (no : Int) : Bool :=
  if rightB rows cols top bottom = true then isB (rowOf rows top bottom o m) (near n 0 (cols - 1)) false 0 wr wc wp no else isB 0 0 false 2 wr wc wp no

set_option maxHeartbeats 1000000 in
theorem goes_any (rows cols top bottom : Int) (o : Bool) (m n wr wc : Int) (wp : Bool) (no : Int) (w : World) :
    Calls Try.prog 14 #[.agg #[.int .i64 rows, .int .i64 cols, .int .i64 top, .int .i64 bottom, .bool o], .int .i64 m, .int .i64 n, .agg #[.int .i64 wr, .int .i64 wc, .bool wp], .int .i64 no] w fun e w' =>
      e = .returned (.bool (goesB rows cols top bottom o m n wr wc wp no)) ∧ Below w.heap.size w w' := by
  cases hR : rightB rows cols top bottom
  · go_enter Try.func14, Try.ntmps14
    go_wp2_with (first | (go_at_call 27; refine (go_err _ _ _ _ _ _ _ _ hR).mono ?_; rintro e w1 ⟨rfl, hb⟩; (first | obtain ⟨X, rfl⟩ := GW.of2 hb | obtain ⟨X, rfl⟩ := GW.of hb); clear hb) | (go_at_call 29; refine (is_any _ _ _ _ _ _ _ _ _).mono ?_; rintro e w1 ⟨rfl, hb⟩; (first | obtain ⟨X, rfl⟩ := GW.of2 hb | obtain ⟨X, rfl⟩ := GW.of hb); clear hb))
    go_ret
    exact ⟨ret_bool (by simp [goesB, hR]), (by repeat (first | with_reducible exact Below.refl _ _ | with_reducible assumption | with_reducible exact GW.grow _ | with_reducible refine bl_alloc ?_ _ | with_reducible refine Below.drew ?_ | (with_reducible refine Below.setCell ?_ ?_ _; rotate_left; focus (simp; first | done | omega)) | with_reducible refine bl_trans ?_ (GW.grow _) | (with_reducible refine bl_trans ?_ (by assumption))))⟩
  · go_enter Try.func14, Try.ntmps14
    go_wp2_with (first | (go_at_call 27; refine (go_ok _ _ _ _ _ _ _ _ hR).mono ?_; rintro e w1 ⟨rfl, hb⟩; (first | obtain ⟨X, rfl⟩ := GW.of2 hb | obtain ⟨X, rfl⟩ := GW.of hb); clear hb) | (go_at_call 29; refine (is_any _ _ _ _ _ _ _ _ _).mono ?_; rintro e w1 ⟨rfl, hb⟩; (first | obtain ⟨X, rfl⟩ := GW.of2 hb | obtain ⟨X, rfl⟩ := GW.of hb); clear hb))
    go_ret
    exact ⟨ret_bool (by simp [goesB, hR]), (by repeat (first | with_reducible exact Below.refl _ _ | with_reducible assumption | with_reducible exact GW.grow _ | with_reducible refine bl_alloc ?_ _ | with_reducible refine Below.drew ?_ | (with_reducible refine Below.setCell ?_ ?_ _; rotate_left; focus (simp; first | done | omega)) | with_reducible refine bl_trans ?_ (GW.grow _) | (with_reducible refine bl_trans ?_ (by assumption))))⟩

def clampsB (rows cols top bottom r c : Int) (p : Bool) (wr wc : Int) (wp : Bool) (no : Int) : Bool :=
  if rightB rows cols top bottom = true then isB (near r 0 (rows - 1)) (near c 0 (cols - 1)) (p && (near c 0 (cols - 1) == cols - 1)) 0 wr wc wp no else isB 0 0 false 2 wr wc wp no

set_option maxHeartbeats 1000000 in
theorem clamps_any (rows cols top bottom : Int) (o : Bool) (r c : Int) (p : Bool) (wr wc : Int) (wp : Bool) (no : Int) (w : World) :
    Calls Try.prog 15 #[.agg #[.int .i64 rows, .int .i64 cols, .int .i64 top, .int .i64 bottom, .bool o], .agg #[.int .i64 r, .int .i64 c, .bool p], .agg #[.int .i64 wr, .int .i64 wc, .bool wp], .int .i64 no] w fun e w' =>
      e = .returned (.bool (clampsB rows cols top bottom r c p wr wc wp no)) ∧ Below w.heap.size w w' := by
  cases hR : rightB rows cols top bottom
  · go_enter Try.func15, Try.ntmps15
    go_wp2_with (first | (go_at_call 33; refine (clamp_err _ _ _ _ _ _ _ _ _ hR).mono ?_; rintro e w1 ⟨rfl, hb⟩; (first | obtain ⟨X, rfl⟩ := GW.of2 hb | obtain ⟨X, rfl⟩ := GW.of hb); clear hb) | (go_at_call 29; refine (is_any _ _ _ _ _ _ _ _ _).mono ?_; rintro e w1 ⟨rfl, hb⟩; (first | obtain ⟨X, rfl⟩ := GW.of2 hb | obtain ⟨X, rfl⟩ := GW.of hb); clear hb))
    go_ret
    exact ⟨ret_bool (by simp [clampsB, hR]), (by repeat (first | with_reducible exact Below.refl _ _ | with_reducible assumption | with_reducible exact GW.grow _ | with_reducible refine bl_alloc ?_ _ | with_reducible refine Below.drew ?_ | (with_reducible refine Below.setCell ?_ ?_ _; rotate_left; focus (simp; first | done | omega)) | with_reducible refine bl_trans ?_ (GW.grow _) | (with_reducible refine bl_trans ?_ (by assumption))))⟩
  · go_enter Try.func15, Try.ntmps15
    go_wp2_with (first | (go_at_call 33; refine (clamp_ok _ _ _ _ _ _ _ _ _ hR).mono ?_; rintro e w1 ⟨rfl, hb⟩; (first | obtain ⟨X, rfl⟩ := GW.of2 hb | obtain ⟨X, rfl⟩ := GW.of hb); clear hb) | (go_at_call 29; refine (is_any _ _ _ _ _ _ _ _ _).mono ?_; rintro e w1 ⟨rfl, hb⟩; (first | obtain ⟨X, rfl⟩ := GW.of2 hb | obtain ⟨X, rfl⟩ := GW.of hb); clear hb))
    go_ret
    exact ⟨ret_bool (by simp [clampsB, hR]), (by repeat (first | with_reducible exact Below.refl _ _ | with_reducible assumption | with_reducible exact GW.grow _ | with_reducible refine bl_alloc ?_ _ | with_reducible refine Below.drew ?_ | (with_reducible refine Below.setCell ?_ ?_ _; rotate_left; focus (simp; first | done | omega)) | with_reducible refine bl_trans ?_ (GW.grow _) | (with_reducible refine bl_trans ?_ (by assumption))))⟩

def standsB (rows cols top bottom : Int) (o : Bool) (r c : Int) (p : Bool) (m n no : Int) : Bool :=
  if validB rows cols top bottom r c p = true then decide ((if o then r - top else r) = m ∧ c = n ∧ 0 = no) else decide (0 = m ∧ 0 = n ∧ 2 = no)

set_option maxHeartbeats 1000000 in
theorem stands_any (rows cols top bottom : Int) (o : Bool) (r c : Int) (p : Bool) (m n no : Int) (w : World) :
    Calls Try.prog 20 #[.agg #[.int .i64 rows, .int .i64 cols, .int .i64 top, .int .i64 bottom, .bool o], .agg #[.int .i64 r, .int .i64 c, .bool p], .int .i64 m, .int .i64 n, .int .i64 no] w fun e w' =>
      e = .returned (.bool (standsB rows cols top bottom o r c p m n no)) ∧ Below w.heap.size w w' := by
  cases hv : validB rows cols top bottom r c p
  · go_enter Try.func20, Try.ntmps20
    go_wp2_with (go_at_call 26; refine (where_err _ _ _ _ _ _ _ _ _ hv).mono ?_; rintro e w1 ⟨rfl, hb⟩; (first | obtain ⟨X, rfl⟩ := GW.of2 hb | obtain ⟨X, rfl⟩ := GW.of hb); clear hb)
    all_goals
      go_ret
      exact ⟨ret_bool (by rw [Bool.eq_iff_iff]; simp [standsB, *]), (by repeat (first | with_reducible exact Below.refl _ _ | with_reducible assumption | with_reducible exact GW.grow _ | with_reducible refine bl_alloc ?_ _ | with_reducible refine Below.drew ?_ | (with_reducible refine Below.setCell ?_ ?_ _; rotate_left; focus (simp; first | done | omega)) | with_reducible refine bl_trans ?_ (GW.grow _) | (with_reducible refine bl_trans ?_ (by assumption))))⟩
  · cases o
    all_goals
      go_enter Try.func20, Try.ntmps20
      go_wp2_with (go_at_call 26; refine (where_ok _ _ _ _ _ _ _ _ _ hv).mono ?_; rintro e w1 ⟨rfl, hb⟩; (first | obtain ⟨X, rfl⟩ := GW.of2 hb | obtain ⟨X, rfl⟩ := GW.of hb); clear hb)
      all_goals
        go_ret
        exact ⟨ret_bool (by rw [standsB, if_pos hv, Bool.eq_iff_iff]; simp [*]), (by repeat (first | with_reducible exact Below.refl _ _ | with_reducible assumption | with_reducible exact GW.grow _ | with_reducible refine bl_alloc ?_ _ | with_reducible refine Below.drew ?_ | (with_reducible refine Below.setCell ?_ ?_ _; rotate_left; focus (simp; first | done | omega)) | with_reducible refine bl_trans ?_ (GW.grow _) | (with_reducible refine bl_trans ?_ (by assumption))))⟩

def stepR (rows cols top bottom r c way : Int) : Int × Int :=
  if way = 0 ∧ 0 < r ∧ r ≠ top then (r - 1, c) else if way = 1 ∧ r < rows - 1 ∧ r ≠ bottom then (r + 1, c) else if way = 2 ∧ 0 < c then (r, c - 1) else if way = 3 ∧ c < cols - 1 then (r, c + 1) else (r, c)

set_option maxHeartbeats 2000000 in
theorem step_any (rows cols top bottom : Int) (o : Bool) (r c : Int) (p : Bool) (way : Int) (w : World) (h1 : 1 ≤ rows ∧ rows ≤ 1000 ∧ 1 ≤ cols ∧ cols ≤ 1000 ∧ 0 ≤ r ∧ r < rows ∧ 0 ≤ c ∧ c < cols) :
    Calls Try.prog 21 #[.agg #[.int .i64 rows, .int .i64 cols, .int .i64 top, .int .i64 bottom, .bool o], .agg #[.int .i64 r, .int .i64 c, .bool p], .int .i64 way] w fun e w' =>
      e = .returned (.agg #[.int .i64 (stepR rows cols top bottom r c way).1, .int .i64 (stepR rows cols top bottom r c way).2, .bool false]) ∧ Below w.heap.size w w' := by
  by_cases a0 : way = 0 ∧ 0 < r ∧ r ≠ top
  · have hs : stepR rows cols top bottom r c way = (r - 1, c) := by simp [stepR, a0]
    obtain ⟨rfl, a1, a2⟩ := a0
    have a3 : (r != top) = true := by simpa using a2
    clear a2
    go_enter Try.func21, Try.ntmps21
    go_wp2_with fail
    refine ret_row (n := 3) rfl rfl Try.underlying27 rfl (by kernel_rfl) rfl ⟨_, by simp (maxDischargeDepth := 6) [go_sem] <;> rfl, rfl, ?_⟩
    exact ⟨by rw [hs], (by repeat (first | with_reducible exact Below.refl _ _ | with_reducible assumption | with_reducible exact GW.grow _ | with_reducible refine bl_alloc ?_ _ | with_reducible refine Below.drew ?_ | (with_reducible refine Below.setCell ?_ ?_ _; rotate_left; focus (simp; first | done | omega)) | with_reducible refine bl_trans ?_ (GW.grow _) | (with_reducible refine bl_trans ?_ (by assumption))))⟩
  by_cases a1 : way = 1 ∧ r < rows - 1 ∧ r ≠ bottom
  · have hs : stepR rows cols top bottom r c way = (r + 1, c) := by simp [stepR, a1]
    obtain ⟨rfl, a1, a2⟩ := a1
    have a3 : (r != bottom) = true := by simpa using a2
    clear a2 a0
    go_enter Try.func21, Try.ntmps21
    go_wp2_with fail
    refine ret_row (n := 3) rfl rfl Try.underlying27 rfl (by kernel_rfl) rfl ⟨_, by simp (maxDischargeDepth := 6) [go_sem] <;> rfl, rfl, ?_⟩
    exact ⟨by rw [hs], (by repeat (first | with_reducible exact Below.refl _ _ | with_reducible assumption | with_reducible exact GW.grow _ | with_reducible refine bl_alloc ?_ _ | with_reducible refine Below.drew ?_ | (with_reducible refine Below.setCell ?_ ?_ _; rotate_left; focus (simp; first | done | omega)) | with_reducible refine bl_trans ?_ (GW.grow _) | (with_reducible refine bl_trans ?_ (by assumption))))⟩
  by_cases a2 : way = 2 ∧ 0 < c
  · have hs : stepR rows cols top bottom r c way = (r, c - 1) := by simp [stepR, a2]
    obtain ⟨rfl, a2⟩ := a2
    clear a0 a1
    go_enter Try.func21, Try.ntmps21
    go_wp2_with fail
    refine ret_row (n := 3) rfl rfl Try.underlying27 rfl (by kernel_rfl) rfl ⟨_, by simp (maxDischargeDepth := 6) [go_sem] <;> rfl, rfl, ?_⟩
    exact ⟨by rw [hs], (by repeat (first | with_reducible exact Below.refl _ _ | with_reducible assumption | with_reducible exact GW.grow _ | with_reducible refine bl_alloc ?_ _ | with_reducible refine Below.drew ?_ | (with_reducible refine Below.setCell ?_ ?_ _; rotate_left; focus (simp; first | done | omega)) | with_reducible refine bl_trans ?_ (GW.grow _) | (with_reducible refine bl_trans ?_ (by assumption))))⟩
  by_cases a3 : way = 3 ∧ c < cols - 1
  · have hs : stepR rows cols top bottom r c way = (r, c + 1) := by simp [stepR, a3]
    obtain ⟨rfl, a3⟩ := a3
    clear a0 a1 a2
    go_enter Try.func21, Try.ntmps21
    go_wp2_with fail
    refine ret_row (n := 3) rfl rfl Try.underlying27 rfl (by kernel_rfl) rfl ⟨_, by simp (maxDischargeDepth := 6) [go_sem] <;> rfl, rfl, ?_⟩
    exact ⟨by rw [hs], (by repeat (first | with_reducible exact Below.refl _ _ | with_reducible assumption | with_reducible exact GW.grow _ | with_reducible refine bl_alloc ?_ _ | with_reducible refine Below.drew ?_ | (with_reducible refine Below.setCell ?_ ?_ _; rotate_left; focus (simp; first | done | omega)) | with_reducible refine bl_trans ?_ (GW.grow _) | (with_reducible refine bl_trans ?_ (by assumption))))⟩
  have hs : stepR rows cols top bottom r c way = (r, c) := by simp only [stepR, if_neg a0, if_neg a1, if_neg a2, if_neg a3]
  have H : RowKit.Hid (stepR rows cols top bottom r c way = (r, c)) := hs
  have b0 : way = 0 → 0 < r → r = top := fun x y => by false_or_by_contra; exact a0 ⟨x, y, by assumption⟩
  have b1 : way = 1 → r < rows - 1 → r = bottom := fun x y => by false_or_by_contra; exact a1 ⟨x, y, by assumption⟩
  have b2 : way = 2 → ¬ 0 < c := fun x y => a2 ⟨x, y⟩
  have b3 : way = 3 → ¬ c < cols - 1 := fun x y => a3 ⟨x, y⟩
  clear a0 a1 a2 a3 hs
  by_cases c0 : way = 0
  · subst c0
    by_cases d : 0 < r
    · obtain rfl := b0 rfl d
      clear b0 b1 b2 b3
      go_enter Try.func21, Try.ntmps21
      go_wp2_with fail
      refine ret_row (n := 3) rfl rfl Try.underlying27 rfl (by kernel_rfl) rfl ⟨_, by simp (maxDischargeDepth := 6) [go_sem] <;> rfl, rfl, ?_⟩
      exact ⟨by rw [H.out], (by repeat (first | with_reducible exact Below.refl _ _ | with_reducible assumption | with_reducible exact GW.grow _ | with_reducible refine bl_alloc ?_ _ | with_reducible refine Below.drew ?_ | (with_reducible refine Below.setCell ?_ ?_ _; rotate_left; focus (simp; first | done | omega)) | with_reducible refine bl_trans ?_ (GW.grow _) | (with_reducible refine bl_trans ?_ (by assumption))))⟩
    · clear b0 b1 b2 b3
      go_enter Try.func21, Try.ntmps21
      go_wp2_with fail
      refine ret_row (n := 3) rfl rfl Try.underlying27 rfl (by kernel_rfl) rfl ⟨_, by simp (maxDischargeDepth := 6) [go_sem] <;> rfl, rfl, ?_⟩
      exact ⟨by rw [H.out], (by repeat (first | with_reducible exact Below.refl _ _ | with_reducible assumption | with_reducible exact GW.grow _ | with_reducible refine bl_alloc ?_ _ | with_reducible refine Below.drew ?_ | (with_reducible refine Below.setCell ?_ ?_ _; rotate_left; focus (simp; first | done | omega)) | with_reducible refine bl_trans ?_ (GW.grow _) | (with_reducible refine bl_trans ?_ (by assumption))))⟩
  by_cases c1 : way = 1
  · subst c1
    by_cases d : r < rows - 1
    · obtain rfl := b1 rfl d
      clear b0 b1 b2 b3 c0
      go_enter Try.func21, Try.ntmps21
      go_wp2_with fail
      refine ret_row (n := 3) rfl rfl Try.underlying27 rfl (by kernel_rfl) rfl ⟨_, by simp (maxDischargeDepth := 6) [go_sem] <;> rfl, rfl, ?_⟩
      exact ⟨by rw [H.out], (by repeat (first | with_reducible exact Below.refl _ _ | with_reducible assumption | with_reducible exact GW.grow _ | with_reducible refine bl_alloc ?_ _ | with_reducible refine Below.drew ?_ | (with_reducible refine Below.setCell ?_ ?_ _; rotate_left; focus (simp; first | done | omega)) | with_reducible refine bl_trans ?_ (GW.grow _) | (with_reducible refine bl_trans ?_ (by assumption))))⟩
    · clear b0 b1 b2 b3 c0
      go_enter Try.func21, Try.ntmps21
      go_wp2_with fail
      refine ret_row (n := 3) rfl rfl Try.underlying27 rfl (by kernel_rfl) rfl ⟨_, by simp (maxDischargeDepth := 6) [go_sem] <;> rfl, rfl, ?_⟩
      exact ⟨by rw [H.out], (by repeat (first | with_reducible exact Below.refl _ _ | with_reducible assumption | with_reducible exact GW.grow _ | with_reducible refine bl_alloc ?_ _ | with_reducible refine Below.drew ?_ | (with_reducible refine Below.setCell ?_ ?_ _; rotate_left; focus (simp; first | done | omega)) | with_reducible refine bl_trans ?_ (GW.grow _) | (with_reducible refine bl_trans ?_ (by assumption))))⟩
  by_cases c2 : way = 2
  · subst c2
    have d := b2 rfl
    clear b0 b1 b2 b3 c0 c1
    go_enter Try.func21, Try.ntmps21
    go_wp2_with fail
    refine ret_row (n := 3) rfl rfl Try.underlying27 rfl (by kernel_rfl) rfl ⟨_, by simp (maxDischargeDepth := 6) [go_sem] <;> rfl, rfl, ?_⟩
    exact ⟨by rw [H.out], (by repeat (first | with_reducible exact Below.refl _ _ | with_reducible assumption | with_reducible exact GW.grow _ | with_reducible refine bl_alloc ?_ _ | with_reducible refine Below.drew ?_ | (with_reducible refine Below.setCell ?_ ?_ _; rotate_left; focus (simp; first | done | omega)) | with_reducible refine bl_trans ?_ (GW.grow _) | (with_reducible refine bl_trans ?_ (by assumption))))⟩
  by_cases c3 : way = 3
  · subst c3
    have d := b3 rfl
    clear b0 b1 b2 b3 c0 c1 c2
    go_enter Try.func21, Try.ntmps21
    go_wp2_with fail
    refine ret_row (n := 3) rfl rfl Try.underlying27 rfl (by kernel_rfl) rfl ⟨_, by simp (maxDischargeDepth := 6) [go_sem] <;> rfl, rfl, ?_⟩
    exact ⟨by rw [H.out], (by repeat (first | with_reducible exact Below.refl _ _ | with_reducible assumption | with_reducible exact GW.grow _ | with_reducible refine bl_alloc ?_ _ | with_reducible refine Below.drew ?_ | (with_reducible refine Below.setCell ?_ ?_ _; rotate_left; focus (simp; first | done | omega)) | with_reducible refine bl_trans ?_ (GW.grow _) | (with_reducible refine bl_trans ?_ (by assumption))))⟩
  clear b0 b1 b2 b3
  go_enter Try.func21, Try.ntmps21
  go_wp2_with fail
  refine ret_row (n := 3) rfl rfl Try.underlying27 rfl (by kernel_rfl) rfl ⟨_, by simp (maxDischargeDepth := 6) [go_sem] <;> rfl, rfl, ?_⟩
  exact ⟨by rw [H.out], (by repeat (first | with_reducible exact Below.refl _ _ | with_reducible assumption | with_reducible exact GW.grow _ | with_reducible refine bl_alloc ?_ _ | with_reducible refine Below.drew ?_ | (with_reducible refine Below.setCell ?_ ?_ _; rotate_left; focus (simp; first | done | omega)) | with_reducible refine bl_trans ?_ (GW.grow _) | (with_reducible refine bl_trans ?_ (by assumption))))⟩

end Go.Proofs.Ytfcogdpkelcfbaa
