/- reply: motion's contracts. -/
import Derived.Test.YtgaakkgelifgpaaDoorBase
set_option linter.unusedSimpArgs false
set_option linter.unusedVariables false
set_option linter.unnecessarySimpa false
namespace Go.Proofs.YtgaakkgelifgpaaDoor
namespace Mo
open Go.RowKit

def near (n lo hi : Int) : Int := max lo (min n hi)
theorem near_any (n lo hi : Int) (w : World) :
    Calls Tryd.prog 37 #[.int .i64 n, .int .i64 lo, .int .i64 hi] w fun e w' => e = .returned (.int .i64 (near n lo hi)) ∧ Below w.heap.size w w' := by
  go_enter Tryd.func37, Tryd.ntmps37
  go_wp2
  all_goals
    go_ret
    exact ⟨ret_int (by simp only [near]; omega), Below.refl _ _⟩
def rightB (rows cols top bottom : Int) : Bool := decide (1 ≤ rows ∧ rows ≤ 1000 ∧ 1 ≤ cols ∧ cols ≤ 1000 ∧ 0 ≤ top ∧ top ≤ bottom ∧ bottom < rows)
theorem right_any (rows cols top bottom : Int) (o : Bool) (w : World) :
    Calls Tryd.prog 35 #[.agg #[.int .i64 rows, .int .i64 cols, .int .i64 top, .int .i64 bottom, .bool o]] w fun e w' => e = .returned (.bool (rightB rows cols top bottom)) ∧ Below w.heap.size w w' := by
  go_enter Tryd.func35, Tryd.ntmps35
  go_wp2
  all_goals
    go_ret
    exact ⟨ret_bool (by rw [Bool.eq_iff_iff]; simp [rightB]; omega), (by repeat (first | with_reducible exact Below.refl _ _ | with_reducible assumption | with_reducible exact GW.grow _ | with_reducible refine bl_alloc ?_ _ | with_reducible refine Below.drew ?_ | (with_reducible refine Below.setCell ?_ ?_ _; rotate_left; focus (simp; first | done | omega)) | with_reducible refine bl_trans ?_ (GW.grow _) | (with_reducible refine bl_trans ?_ (by assumption))))⟩
theorem rightRef_any (rows cols top bottom : Int) (o : Bool) (w : World) :
    Calls Tryd.prog 32 #[.agg #[.int .i64 rows, .int .i64 cols, .int .i64 top, .int .i64 bottom, .bool o]] w fun e w' => e = .returned (.bool (rightB rows cols top bottom)) ∧ Below w.heap.size w w' := by
  go_enter Tryd.func32, Tryd.ntmps32
  go_wp2
  all_goals
    go_ret
    exact ⟨ret_bool (by rw [Bool.eq_iff_iff]; simp [rightB]; omega), (by repeat (first | with_reducible exact Below.refl _ _ | with_reducible assumption | with_reducible exact GW.grow _ | with_reducible refine bl_alloc ?_ _ | with_reducible refine Below.drew ?_ | (with_reducible refine Below.setCell ?_ ?_ _; rotate_left; focus (simp; first | done | omega)) | with_reducible refine bl_trans ?_ (GW.grow _) | (with_reducible refine bl_trans ?_ (by assumption))))⟩
theorem right_facts {rows cols top bottom : Int} (h : rightB rows cols top bottom = true) : 1 ≤ rows ∧ rows ≤ 1000 ∧ 1 ≤ cols ∧ cols ≤ 1000 ∧ 0 ≤ top ∧ top ≤ bottom ∧ bottom < rows := by
  simpa [rightB] using h
def validB (rows cols top bottom r c : Int) (p : Bool) : Bool := rightB rows cols top bottom && decide (0 ≤ r ∧ r < rows ∧ 0 ≤ c ∧ c < cols) && (!p || decide (c = cols - 1))
theorem valid_facts {rows cols top bottom r c : Int} {p : Bool} (h : validB rows cols top bottom r c p = true) : 1 ≤ rows ∧ rows ≤ 1000 ∧ 1 ≤ cols ∧ cols ≤ 1000 ∧ 0 ≤ top ∧ top ≤ bottom ∧ bottom < rows ∧ 0 ≤ r ∧ r < rows ∧ 0 ≤ c ∧ c < cols := by
  simp only [validB, Bool.and_eq_true] at h
  obtain ⟨⟨h1, h2⟩, _⟩ := h
  have := right_facts h1
  simp at h2
  omega
theorem valid_any (rows cols top bottom : Int) (o : Bool) (r c : Int) (p : Bool) (w : World) :
    Calls Tryd.prog 46 #[.agg #[.int .i64 rows, .int .i64 cols, .int .i64 top, .int .i64 bottom, .bool o], .agg #[.int .i64 r, .int .i64 c, .bool p]] w fun e w' => e = .returned (.bool (validB rows cols top bottom r c p)) ∧ Below w.heap.size w w' := by
  cases hR : rightB rows cols top bottom
  · go_enter Tryd.func46, Tryd.ntmps46
    go_wp2_with (go_at_call 35; refine (right_any _ _ _ _ _ _).mono ?_; rintro e w1 ⟨rfl, hb⟩; (first | obtain ⟨X, rfl⟩ := GW.of2 hb | obtain ⟨X, rfl⟩ := GW.of hb); clear hb)
    go_ret
    exact ⟨ret_bool (by simp [validB, hR]), (by repeat (first | with_reducible exact Below.refl _ _ | with_reducible assumption | with_reducible exact GW.grow _ | with_reducible refine bl_alloc ?_ _ | with_reducible refine Below.drew ?_ | (with_reducible refine Below.setCell ?_ ?_ _; rotate_left; focus (simp; first | done | omega)) | with_reducible refine bl_trans ?_ (GW.grow _) | (with_reducible refine bl_trans ?_ (by assumption))))⟩
  · have := right_facts hR
    go_enter Tryd.func46, Tryd.ntmps46
    go_wp2_with (go_at_call 35; refine (right_any _ _ _ _ _ _).mono ?_; rintro e w1 ⟨rfl, hb⟩; (first | obtain ⟨X, rfl⟩ := GW.of2 hb | obtain ⟨X, rfl⟩ := GW.of hb); clear hb)
    all_goals
      go_ret
      exact ⟨ret_bool (by rw [Bool.eq_iff_iff]; simp [validB, *] <;> omega), (by repeat (first | with_reducible exact Below.refl _ _ | with_reducible assumption | with_reducible exact GW.grow _ | with_reducible refine bl_alloc ?_ _ | with_reducible refine Below.drew ?_ | (with_reducible refine Below.setCell ?_ ?_ _; rotate_left; focus (simp; first | done | omega)) | with_reducible refine bl_trans ?_ (GW.grow _) | (with_reducible refine bl_trans ?_ (by assumption))))⟩
theorem check_ok (rows cols top bottom : Int) (o : Bool) (r c : Int) (p : Bool) (n : Int) (w : World) (h : validB rows cols top bottom r c p = true) (hn : 0 ≤ n) :
    Calls Tryd.prog 41 #[.agg #[.int .i64 rows, .int .i64 cols, .int .i64 top, .int .i64 bottom, .bool o], .agg #[.int .i64 r, .int .i64 c, .bool p], .int .i64 n] w fun e w' => e = .returned (.int .i64 0) ∧ Below w.heap.size w w' := by
  go_enter Tryd.func41, Tryd.ntmps41
  go_wp2_with (go_at_call 46; refine (valid_any _ _ _ _ _ _ _ _ _).mono ?_; rintro e w1 ⟨rfl, hb⟩; (first | obtain ⟨X, rfl⟩ := GW.of2 hb | obtain ⟨X, rfl⟩ := GW.of hb); clear hb)
  go_ret
  exact ⟨rfl, (by repeat (first | with_reducible exact Below.refl _ _ | with_reducible assumption | with_reducible exact GW.grow _ | with_reducible refine bl_alloc ?_ _ | with_reducible refine Below.drew ?_ | (with_reducible refine Below.setCell ?_ ?_ _; rotate_left; focus (simp; first | done | omega)) | with_reducible refine bl_trans ?_ (GW.grow _) | (with_reducible refine bl_trans ?_ (by assumption))))⟩
theorem check_err (rows cols top bottom : Int) (o : Bool) (r c : Int) (p : Bool) (n : Int) (w : World) (h : validB rows cols top bottom r c p = false ∨ n < 0) :
    Calls Tryd.prog 41 #[.agg #[.int .i64 rows, .int .i64 cols, .int .i64 top, .int .i64 bottom, .bool o], .agg #[.int .i64 r, .int .i64 c, .bool p], .int .i64 n] w fun e w' => e = .returned (.int .i64 2) ∧ Below w.heap.size w w' := by
  cases hv : validB rows cols top bottom r c p
  · go_enter Tryd.func41, Tryd.ntmps41
    go_wp2_with (go_at_call 46; refine (valid_any _ _ _ _ _ _ _ _ _).mono ?_; rintro e w1 ⟨rfl, hb⟩; (first | obtain ⟨X, rfl⟩ := GW.of2 hb | obtain ⟨X, rfl⟩ := GW.of hb); clear hb)
    go_ret
    exact ⟨rfl, (by repeat (first | with_reducible exact Below.refl _ _ | with_reducible assumption | with_reducible exact GW.grow _ | with_reducible refine bl_alloc ?_ _ | with_reducible refine Below.drew ?_ | (with_reducible refine Below.setCell ?_ ?_ _; rotate_left; focus (simp; first | done | omega)) | with_reducible refine bl_trans ?_ (GW.grow _) | (with_reducible refine bl_trans ?_ (by assumption))))⟩
  · have h' : n < 0 := by simpa [hv] using h
    clear h
    go_enter Tryd.func41, Tryd.ntmps41
    go_wp2_with (go_at_call 46; refine (valid_any _ _ _ _ _ _ _ _ _).mono ?_; rintro e w1 ⟨rfl, hb⟩; (first | obtain ⟨X, rfl⟩ := GW.of2 hb | obtain ⟨X, rfl⟩ := GW.of hb); clear hb)
    go_ret
    exact ⟨rfl, (by repeat (first | with_reducible exact Below.refl _ _ | with_reducible assumption | with_reducible exact GW.grow _ | with_reducible refine bl_alloc ?_ _ | with_reducible refine Below.drew ?_ | (with_reducible refine Below.setCell ?_ ?_ _; rotate_left; focus (simp; first | done | omega)) | with_reducible refine bl_trans ?_ (GW.grow _) | (with_reducible refine bl_trans ?_ (by assumption))))⟩
def rowOf (rows top bottom : Int) (o : Bool) (n : Int) : Int := if o then top + near n 0 (bottom - top) else near n 0 (rows - 1)
theorem rowOf_any (rows cols top bottom : Int) (o : Bool) (n : Int) (w : World) (h : rightB rows cols top bottom = true) :
    Calls Tryd.prog 36 #[.agg #[.int .i64 rows, .int .i64 cols, .int .i64 top, .int .i64 bottom, .bool o], .int .i64 n] w fun e w' => e = .returned (.int .i64 (rowOf rows top bottom o n)) ∧ Below w.heap.size w w' := by
  have := right_facts h
  cases o
  · go_enter Tryd.func36, Tryd.ntmps36
    go_wp2_with (go_at_call 37; refine (near_any _ _ _ _).mono ?_; rintro e w1 ⟨rfl, hb⟩; (first | obtain ⟨X, rfl⟩ := GW.of2 hb | obtain ⟨X, rfl⟩ := GW.of hb); clear hb)
    go_ret
    exact ⟨ret_int (by simp [rowOf]), (by repeat (first | with_reducible exact Below.refl _ _ | with_reducible assumption | with_reducible exact GW.grow _ | with_reducible refine bl_alloc ?_ _ | with_reducible refine Below.drew ?_ | (with_reducible refine Below.setCell ?_ ?_ _; rotate_left; focus (simp; first | done | omega)) | with_reducible refine bl_trans ?_ (GW.grow _) | (with_reducible refine bl_trans ?_ (by assumption))))⟩
  · go_enter Tryd.func36, Tryd.ntmps36
    go_wp2_with fail
    have e1 : IntKind.i64.wrap (bottom - top) = bottom - top := IntWalk.i64_in _ (by omega)
    have e2 : IntKind.i64.wrap (top + near n 0 (bottom - top)) = top + near n 0 (bottom - top) := IntWalk.i64_in _ (by unfold near; omega)
    first | refine wp_grow2 (by kernel_rfl) (by kernel_rfl) ?_ | refine wp_grow (by kernel_rfl) (by kernel_rfl) ?_
    repeat (go_big_quiet_step ((go_at_call 37; exact GW.call (near_any _ _ _ _))))
    refine wpQuiet_nil ?_
    rintro _ ⟨X, rfl⟩
    go_wp2_with fail
    go_ret
    exact ⟨ret_int (by simp [rowOf]), (by repeat (first | with_reducible exact Below.refl _ _ | with_reducible assumption | with_reducible exact GW.grow _ | with_reducible refine bl_alloc ?_ _ | with_reducible refine Below.drew ?_ | (with_reducible refine Below.setCell ?_ ?_ _; rotate_left; focus (simp; first | done | omega)) | with_reducible refine bl_trans ?_ (GW.grow _) | (with_reducible refine bl_trans ?_ (by assumption))))⟩
theorem go_ok (rows cols top bottom : Int) (o : Bool) (m n : Int) (w : World) (h : rightB rows cols top bottom = true) :
    Calls Tryd.prog 18 #[.agg #[.int .i64 rows, .int .i64 cols, .int .i64 top, .int .i64 bottom, .bool o], .int .i64 m, .int .i64 n] w fun e w' =>
      e = .returned (.tuple #[.agg #[.int .i64 (rowOf rows top bottom o m), .int .i64 (near n 0 (cols - 1)), .bool false], .int .i64 0]) ∧ Below w.heap.size w w' := by
  have := right_facts h
  go_enter Tryd.func18, Tryd.ntmps18
  go_wp2_with (go_at_call 35; refine (right_any _ _ _ _ _ _).mono ?_; rintro e w1 ⟨rfl, hb⟩; (first | obtain ⟨X, rfl⟩ := GW.of2 hb | obtain ⟨X, rfl⟩ := GW.of hb); clear hb)
  have e1 : IntKind.i64.wrap (cols - 1) = cols - 1 := IntWalk.i64_in _ (by omega)
  first | refine wp_grow_tail2 9 (by kernel_rfl) (by kernel_rfl) ?_ | refine wp_grow_tail 9 (by kernel_rfl) (by kernel_rfl) ?_
  simp only [List.take_succ_cons, List.take_zero, List.drop_succ_cons, List.drop_zero]
  repeat (go_big_quiet_step (first | (go_at_call 36; exact GW.call (rowOf_any _ _ _ _ _ _ _ h)) | (go_at_call 37; exact GW.call (near_any _ _ _ _))))
  refine wpQuiet_nil ?_
  rintro _ ⟨X, rfl⟩
  go_wp2_with fail
  refine ret_row_tmp (n := 3) rfl rfl Tryd.underlying27 rfl (by kernel_rfl) rfl ⟨_, by simp (maxDischargeDepth := 6) [go_sem] <;> rfl, rfl, ?_⟩
  exact ⟨rfl, (by repeat (first | with_reducible exact Below.refl _ _ | with_reducible assumption | with_reducible exact GW.grow _ | with_reducible refine bl_alloc ?_ _ | with_reducible refine Below.drew ?_ | (with_reducible refine Below.setCell ?_ ?_ _; rotate_left; focus (simp; first | done | omega)) | with_reducible refine bl_trans ?_ (GW.grow _) | (with_reducible refine bl_trans ?_ (by assumption))))⟩
theorem go_err (rows cols top bottom : Int) (o : Bool) (m n : Int) (w : World) (h : rightB rows cols top bottom = false) :
    Calls Tryd.prog 18 #[.agg #[.int .i64 rows, .int .i64 cols, .int .i64 top, .int .i64 bottom, .bool o], .int .i64 m, .int .i64 n] w fun e w' =>
      e = .returned (.tuple #[.agg #[.int .i64 0, .int .i64 0, .bool false], .int .i64 2]) ∧ Below w.heap.size w w' := by
  go_enter Tryd.func18, Tryd.ntmps18
  go_wp2_with (go_at_call 35; refine (right_any _ _ _ _ _ _).mono ?_; rintro e w1 ⟨rfl, hb⟩; (first | obtain ⟨X, rfl⟩ := GW.of2 hb | obtain ⟨X, rfl⟩ := GW.of hb); clear hb)
  refine ret_row_tmp (n := 3) rfl rfl Tryd.underlying27 rfl (by kernel_rfl) rfl ⟨_, by simp (maxDischargeDepth := 6) [go_sem] <;> rfl, rfl, ?_⟩
  exact ⟨rfl, (by repeat (first | with_reducible exact Below.refl _ _ | with_reducible assumption | with_reducible exact GW.grow _ | with_reducible refine bl_alloc ?_ _ | with_reducible refine Below.drew ?_ | (with_reducible refine Below.setCell ?_ ?_ _; rotate_left; focus (simp; first | done | omega)) | with_reducible refine bl_trans ?_ (GW.grow _) | (with_reducible refine bl_trans ?_ (by assumption))))⟩
theorem where_ok (rows cols top bottom : Int) (o : Bool) (r c : Int) (p : Bool) (w : World) (h : validB rows cols top bottom r c p = true) :
    Calls Tryd.prog 33 #[.agg #[.int .i64 rows, .int .i64 cols, .int .i64 top, .int .i64 bottom, .bool o], .agg #[.int .i64 r, .int .i64 c, .bool p]] w fun e w' =>
      e = .returned (.tuple #[.int .i64 (if o then r - top else r), .int .i64 c, .int .i64 0]) ∧ Below w.heap.size w w' := by
  have := valid_facts h
  have e1 : IntKind.i64.wrap (r - top) = r - top := IntWalk.i64_in _ (by omega)
  cases o
  all_goals
    go_enter Tryd.func33, Tryd.ntmps33
    go_wp2_with (go_at_call 41; refine (check_ok _ _ _ _ _ _ _ _ _ _ (by assumption) (by omega)).mono ?_; rintro e w1 ⟨rfl, hb⟩; (first | obtain ⟨X, rfl⟩ := GW.of2 hb | obtain ⟨X, rfl⟩ := GW.of hb); clear hb)
    first | refine wp_grow2 (by kernel_rfl) (by kernel_rfl) ?_ | refine wp_grow (by kernel_rfl) (by kernel_rfl) ?_
    repeat (go_big_quiet_step (fail))
    refine wpQuiet_nil ?_
    rintro _ ⟨X, rfl⟩
    go_wp2_with fail
    go_ret3
    exact ⟨rfl, (by repeat (first | with_reducible exact Below.refl _ _ | with_reducible assumption | with_reducible exact GW.grow _ | with_reducible refine bl_alloc ?_ _ | with_reducible refine Below.drew ?_ | (with_reducible refine Below.setCell ?_ ?_ _; rotate_left; focus (simp; first | done | omega)) | with_reducible refine bl_trans ?_ (GW.grow _) | (with_reducible refine bl_trans ?_ (by assumption))))⟩
theorem where_err (rows cols top bottom : Int) (o : Bool) (r c : Int) (p : Bool) (w : World) (h : validB rows cols top bottom r c p = false) :
    Calls Tryd.prog 33 #[.agg #[.int .i64 rows, .int .i64 cols, .int .i64 top, .int .i64 bottom, .bool o], .agg #[.int .i64 r, .int .i64 c, .bool p]] w fun e w' =>
      e = .returned (.tuple #[.int .i64 0, .int .i64 0, .int .i64 2]) ∧ Below w.heap.size w w' := by
  go_enter Tryd.func33, Tryd.ntmps33
  go_wp2_with (go_at_call 41; refine (check_err _ _ _ _ _ _ _ _ _ _ (.inl (by assumption))).mono ?_; rintro e w1 ⟨rfl, hb⟩; (first | obtain ⟨X, rfl⟩ := GW.of2 hb | obtain ⟨X, rfl⟩ := GW.of hb); clear hb)
  go_ret3
  exact ⟨rfl, (by repeat (first | with_reducible exact Below.refl _ _ | with_reducible assumption | with_reducible exact GW.grow _ | with_reducible refine bl_alloc ?_ _ | with_reducible refine Below.drew ?_ | (with_reducible refine Below.setCell ?_ ?_ _; rotate_left; focus (simp; first | done | omega)) | with_reducible refine bl_trans ?_ (GW.grow _) | (with_reducible refine bl_trans ?_ (by assumption))))⟩
theorem validRef_any (rows cols top bottom : Int) (o : Bool) (r c : Int) (p : Bool) (w : World) :
    Calls Tryd.prog 15 #[.agg #[.int .i64 rows, .int .i64 cols, .int .i64 top, .int .i64 bottom, .bool o], .agg #[.int .i64 r, .int .i64 c, .bool p]] w fun e w' => e = .returned (.bool (validB rows cols top bottom r c p)) ∧ Below w.heap.size w w' := by
  cases hR : rightB rows cols top bottom
  · go_enter Tryd.func15, Tryd.ntmps15
    go_wp2_with (go_at_call 32; refine (rightRef_any _ _ _ _ _ _).mono ?_; rintro e w1 ⟨rfl, hb⟩; (first | obtain ⟨X, rfl⟩ := GW.of2 hb | obtain ⟨X, rfl⟩ := GW.of hb); clear hb)
    go_ret
    exact ⟨ret_bool (by simp [validB, hR]), (by repeat (first | with_reducible exact Below.refl _ _ | with_reducible assumption | with_reducible exact GW.grow _ | with_reducible refine bl_alloc ?_ _ | with_reducible refine Below.drew ?_ | (with_reducible refine Below.setCell ?_ ?_ _; rotate_left; focus (simp; first | done | omega)) | with_reducible refine bl_trans ?_ (GW.grow _) | (with_reducible refine bl_trans ?_ (by assumption))))⟩
  · have := right_facts hR
    cases p
    all_goals
      go_enter Tryd.func15, Tryd.ntmps15
      go_wp2_with (go_at_call 32; refine (rightRef_any _ _ _ _ _ _).mono ?_; rintro e w1 ⟨rfl, hb⟩; (first | obtain ⟨X, rfl⟩ := GW.of2 hb | obtain ⟨X, rfl⟩ := GW.of hb); clear hb)
      all_goals
        go_ret
        exact ⟨ret_bool (by rw [Bool.eq_iff_iff]; simp [validB, *] <;> omega), (by repeat (first | with_reducible exact Below.refl _ _ | with_reducible assumption | with_reducible exact GW.grow _ | with_reducible refine bl_alloc ?_ _ | with_reducible refine Below.drew ?_ | (with_reducible refine Below.setCell ?_ ?_ _; rotate_left; focus (simp; first | done | omega)) | with_reducible refine bl_trans ?_ (GW.grow _) | (with_reducible refine bl_trans ?_ (by assumption))))⟩
theorem validRef_true (rows cols top bottom : Int) (o : Bool) (r c : Int) (p : Bool) (w : World) (h : validB rows cols top bottom r c p = true) :
    Calls Tryd.prog 15 #[.agg #[.int .i64 rows, .int .i64 cols, .int .i64 top, .int .i64 bottom, .bool o], .agg #[.int .i64 r, .int .i64 c, .bool p]] w fun e w' => e = .returned (.bool true) ∧ Below w.heap.size w w' := by
  have := validRef_any rows cols top bottom o r c p w
  rwa [h] at this
theorem validRef_false (rows cols top bottom : Int) (o : Bool) (r c : Int) (p : Bool) (w : World) (h : validB rows cols top bottom r c p = false) :
    Calls Tryd.prog 15 #[.agg #[.int .i64 rows, .int .i64 cols, .int .i64 top, .int .i64 bottom, .bool o], .agg #[.int .i64 r, .int .i64 c, .bool p]] w fun e w' => e = .returned (.bool false) ∧ Below w.heap.size w w' := by
  have := validRef_any rows cols top bottom o r c p w
  rwa [h] at this

end Mo
end Go.Proofs.YtgaakkgelifgpaaDoor
