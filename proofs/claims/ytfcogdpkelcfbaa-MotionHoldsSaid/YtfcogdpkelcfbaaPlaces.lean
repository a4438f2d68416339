/- MotionPlaces returns true for every area, cursor, row and column, and changes nothing that was there. No condition. -/
import Derived.Test.YtfcogdpkelcfbaaE
import Derived.Test.YtfcogdpkelcfbaaOpen
namespace Go.Proofs.Ytfcogdpkelcfbaa
open Go.ChangeShapes Go.WideShapes Go.ChangeAt Go.RowKit

theorem rightRef_true (rows cols top bottom : Int) (o : Bool) (w : World) (h : rightB rows cols top bottom = true) :
    Calls Try.prog 13 #[.agg #[.int .i64 rows, .int .i64 cols, .int .i64 top, .int .i64 bottom, .bool o]] w fun e w' => e = .returned (.bool true) ∧ Below w.heap.size w w' := by
  have := rightRef_any rows cols top bottom o w
  rwa [h] at this
theorem rightRef_false (rows cols top bottom : Int) (o : Bool) (w : World) (h : rightB rows cols top bottom = false) :
    Calls Try.prog 13 #[.agg #[.int .i64 rows, .int .i64 cols, .int .i64 top, .int .i64 bottom, .bool o]] w fun e w' => e = .returned (.bool false) ∧ Below w.heap.size w w' := by
  have := rightRef_any rows cols top bottom o w
  rwa [h] at this

set_option maxHeartbeats 4000000 in
theorem motionPlaces_any (rows cols top bottom : Int) (o : Bool) (r c : Int) (p : Bool) (m n : Int) (w : World) :
    Calls Try.prog 4 #[.agg #[.int .i64 rows, .int .i64 cols, .int .i64 top, .int .i64 bottom, .bool o], .agg #[.int .i64 r, .int .i64 c, .bool p], .int .i64 m, .int .i64 n] w fun e w' => e = .returned (.bool true) ∧ Below w.heap.size w w' := by
  cases hR : rightB rows cols top bottom
  · have f1 : goesB rows cols top bottom o m n 0 0 false 2 = true := by simp [goesB, hR, isB]
    have f2 : clampsB rows cols top bottom r c p 0 0 false 2 = true := by simp [clampsB, hR, isB]
    go_enter Try.func4, Try.ntmps4
    go_wp2_with (first | (go_at_call 13; refine (rightRef_false _ _ _ _ _ _ hR).mono ?_; rintro e w1 ⟨rfl, hb⟩; (first | obtain ⟨X, rfl⟩ := GW.of2 hb | obtain ⟨X, rfl⟩ := GW.of hb); clear hb) | (go_at_call 14; refine (goes_true _ _ _ _ _ _ _ _ _ _ _ _ f1).mono ?_; rintro e w1 ⟨rfl, hb⟩; (first | obtain ⟨X, rfl⟩ := GW.of2 hb | obtain ⟨X, rfl⟩ := GW.of hb); clear hb) | (go_at_call 15; refine (clamps_true _ _ _ _ _ _ _ _ _ _ _ _ _ f2).mono ?_; rintro e w1 ⟨rfl, hb⟩; (first | obtain ⟨X, rfl⟩ := GW.of2 hb | obtain ⟨X, rfl⟩ := GW.of hb); clear hb) | (go_at_call 12; refine (known_any _).mono ?_; rintro e w1 ⟨rfl, hb⟩; (first | obtain ⟨X, rfl⟩ := GW.of2 hb | obtain ⟨X, rfl⟩ := GW.of hb); clear hb))
    go_ret
    exact ⟨rfl, (by repeat (first | with_reducible exact Below.refl _ _ | with_reducible assumption | with_reducible exact GW.grow _ | with_reducible refine bl_alloc ?_ _ | with_reducible refine Below.drew ?_ | (with_reducible refine Below.setCell ?_ ?_ _; rotate_left; focus (simp; first | done | omega)) | with_reducible refine bl_trans ?_ (GW.grow _) | (with_reducible refine bl_trans ?_ (by assumption))))⟩
  have hr := right_facts hR
  have e1 : IntKind.i64.wrap (cols - 1) = cols - 1 := IntWalk.i64_in _ (by omega)
  have f1 : goesB rows cols top bottom o m n (rowOf rows top bottom o m) (near n 0 (cols - 1)) false 0 = true := by simp [goesB, hR, isB]
  have f2 : clampsB rows cols top bottom r c p (near r 0 (rows - 1)) (near c 0 (cols - 1)) (p && (near c 0 (cols - 1) == cols - 1)) 0 = true := by simp [clampsB, hR, isB]
  cases h : validB rows cols top bottom r c p
  · have f3 : wentB rows cols top bottom o r c p 4 n 0 0 false 2 = true := by simp [wentB, h, isB]
    have f4 : wentB rows cols top bottom o r c p 5 m 0 0 false 2 = true := by simp [wentB, h, isB]
    have f5 : wentB rows cols top bottom o r c p 6 0 0 0 false 2 = true := by simp [wentB, h, isB]
    have f6 : standsB rows cols top bottom o r c p 0 0 2 = true := by simp [standsB, h]
    go_enter Try.func4, Try.ntmps4
    go_wp2_with (go_at_call 13; refine (rightRef_true _ _ _ _ _ _ hR).mono ?_; rintro e w1 ⟨rfl, hb⟩; (first | obtain ⟨X, rfl⟩ := GW.of2 hb | obtain ⟨X, rfl⟩ := GW.of hb); clear hb)
    first | refine wp_grow2 (by kernel_rfl) (by kernel_rfl) ?_ | refine wp_grow (by kernel_rfl) (by kernel_rfl) ?_
    repeat (go_big_quiet_step (first | (go_at_call 16; exact GW.call (rowRef_any _ _ _ _ _ _ _ hR)) | (go_at_call 17; exact GW.call (nearRef_bl _ _ _ (by omega) _))))
    refine wpQuiet_nil ?_
    rintro _ ⟨X, rfl⟩
    go_wp2_with fail
    first | refine wp_grow2 (by kernel_rfl) (by kernel_rfl) ?_ | refine wp_grow (by kernel_rfl) (by kernel_rfl) ?_
    repeat (go_big_quiet_step (first | (go_at_call 18; exact GW.call (at_any _ _ _)) | (go_at_call 14; exact GW.call (goes_true _ _ _ _ _ _ _ _ _ _ _ _ f1)) | (go_at_call 19; exact GW.call (clampRef_ok _ _ _ _ _ _ _ _ _ hR)) | (go_at_call 15; exact GW.call (clamps_true _ _ _ _ _ _ _ _ _ _ _ _ _ f2))))
    refine wpQuiet_nil ?_
    rintro _ ⟨X, rfl⟩
    go_wp2_with (first | (go_at_call 9; refine (validRef_false _ _ _ _ _ _ _ _ _ h).mono ?_; rintro e w1 ⟨rfl, hb⟩; (first | obtain ⟨X, rfl⟩ := GW.of2 hb | obtain ⟨X, rfl⟩ := GW.of hb); clear hb) | (go_at_call 10; refine (went_true _ _ _ _ _ _ _ _ _ _ _ _ _ _ _ (by assumption)).mono ?_; rintro e w1 ⟨rfl, hb⟩; (first | obtain ⟨X, rfl⟩ := GW.of2 hb | obtain ⟨X, rfl⟩ := GW.of hb); clear hb) | (go_at_call 20; refine (stands_true _ _ _ _ _ _ _ _ _ _ _ _ f6).mono ?_; rintro e w1 ⟨rfl, hb⟩; (first | obtain ⟨X, rfl⟩ := GW.of2 hb | obtain ⟨X, rfl⟩ := GW.of hb); clear hb) | (go_at_call 12; refine (known_any _).mono ?_; rintro e w1 ⟨rfl, hb⟩; (first | obtain ⟨X, rfl⟩ := GW.of2 hb | obtain ⟨X, rfl⟩ := GW.of hb); clear hb))
    go_ret
    exact ⟨rfl, (by repeat (first | with_reducible exact Below.refl _ _ | with_reducible assumption | with_reducible exact GW.grow _ | with_reducible refine bl_alloc ?_ _ | with_reducible refine Below.drew ?_ | (with_reducible refine Below.setCell ?_ ?_ _; rotate_left; focus (simp; first | done | omega)) | with_reducible refine bl_trans ?_ (GW.grow _) | (with_reducible refine bl_trans ?_ (by assumption))))⟩
  have hv := valid_facts h
  have e2 : IntKind.i64.wrap (r - top) = r - top := IntWalk.i64_in _ (by omega)
  have e3 : IntKind.i64.wrap (r - 0) = r := IntWalk.i64_in (r - 0) (by omega) |>.trans (by omega)
  have f3 : wentB rows cols top bottom o r c p 4 n r (near n 0 (cols - 1)) false 0 = true := by simp [wentB, wayR, h, isB]
  have f4 : wentB rows cols top bottom o r c p 5 m (rowOf rows top bottom o m) c false 0 = true := by simp [wentB, wayR, h, isB]
  have f5 : wentB rows cols top bottom o r c p 6 0 r 0 false 0 = true := by simp [wentB, wayR, h, isB, near]; omega
  cases o
  · have f6 : standsB rows cols top bottom false r c p r c 0 = true := by simp [standsB, h]
    go_enter Try.func4, Try.ntmps4
    go_wp2_with (go_at_call 13; refine (rightRef_true _ _ _ _ _ _ hR).mono ?_; rintro e w1 ⟨rfl, hb⟩; (first | obtain ⟨X, rfl⟩ := GW.of2 hb | obtain ⟨X, rfl⟩ := GW.of hb); clear hb)
    first | refine wp_grow2 (by kernel_rfl) (by kernel_rfl) ?_ | refine wp_grow (by kernel_rfl) (by kernel_rfl) ?_
    repeat (go_big_quiet_step (first | (go_at_call 16; exact GW.call (rowRef_any _ _ _ _ _ _ _ hR)) | (go_at_call 17; exact GW.call (nearRef_bl _ _ _ (by omega) _))))
    refine wpQuiet_nil ?_
    rintro _ ⟨X, rfl⟩
    go_wp2_with fail
    first | refine wp_grow2 (by kernel_rfl) (by kernel_rfl) ?_ | refine wp_grow (by kernel_rfl) (by kernel_rfl) ?_
    repeat (go_big_quiet_step (first | (go_at_call 18; exact GW.call (at_any _ _ _)) | (go_at_call 14; exact GW.call (goes_true _ _ _ _ _ _ _ _ _ _ _ _ f1)) | (go_at_call 19; exact GW.call (clampRef_ok _ _ _ _ _ _ _ _ _ hR)) | (go_at_call 15; exact GW.call (clamps_true _ _ _ _ _ _ _ _ _ _ _ _ _ f2))))
    refine wpQuiet_nil ?_
    rintro _ ⟨X, rfl⟩
    go_wp2_with (go_at_call 9; refine (validRef_true _ _ _ _ _ _ _ _ _ h).mono ?_; rintro e w1 ⟨rfl, hb⟩; (first | obtain ⟨X, rfl⟩ := GW.of2 hb | obtain ⟨X, rfl⟩ := GW.of hb); clear hb)
    first | refine wp_grow2 (by kernel_rfl) (by kernel_rfl) ?_ | refine wp_grow (by kernel_rfl) (by kernel_rfl) ?_
    repeat (go_big_quiet_step (first | (go_at_call 18; exact GW.call (at_any _ _ _)) | (go_at_call 10; exact GW.call (went_true _ _ _ _ _ _ _ _ _ _ _ _ _ _ _ (by assumption))) | (go_at_call 20; exact GW.call (stands_true _ _ _ _ _ _ _ _ _ _ _ _ (by simpa using f6))) | (go_at_call 12; exact GW.call (known_any _))))
    refine wpQuiet_nil ?_
    rintro _ ⟨X, rfl⟩
    go_wp2_with fail
    go_ret
    exact ⟨rfl, (by repeat (first | with_reducible exact Below.refl _ _ | with_reducible assumption | with_reducible exact GW.grow _ | with_reducible refine bl_alloc ?_ _ | with_reducible refine Below.drew ?_ | (with_reducible refine Below.setCell ?_ ?_ _; rotate_left; focus (simp; first | done | omega)) | with_reducible refine bl_trans ?_ (GW.grow _) | (with_reducible refine bl_trans ?_ (by assumption))))⟩
  · have f6 : standsB rows cols top bottom true r c p (r - top) c 0 = true := by simp [standsB, h]
    go_enter Try.func4, Try.ntmps4
    go_wp2_with (go_at_call 13; refine (rightRef_true _ _ _ _ _ _ hR).mono ?_; rintro e w1 ⟨rfl, hb⟩; (first | obtain ⟨X, rfl⟩ := GW.of2 hb | obtain ⟨X, rfl⟩ := GW.of hb); clear hb)
    first | refine wp_grow2 (by kernel_rfl) (by kernel_rfl) ?_ | refine wp_grow (by kernel_rfl) (by kernel_rfl) ?_
    repeat (go_big_quiet_step (first | (go_at_call 16; exact GW.call (rowRef_any _ _ _ _ _ _ _ hR)) | (go_at_call 17; exact GW.call (nearRef_bl _ _ _ (by omega) _))))
    refine wpQuiet_nil ?_
    rintro _ ⟨X, rfl⟩
    go_wp2_with fail
    first | refine wp_grow2 (by kernel_rfl) (by kernel_rfl) ?_ | refine wp_grow (by kernel_rfl) (by kernel_rfl) ?_
    repeat (go_big_quiet_step (first | (go_at_call 18; exact GW.call (at_any _ _ _)) | (go_at_call 14; exact GW.call (goes_true _ _ _ _ _ _ _ _ _ _ _ _ f1)) | (go_at_call 19; exact GW.call (clampRef_ok _ _ _ _ _ _ _ _ _ hR)) | (go_at_call 15; exact GW.call (clamps_true _ _ _ _ _ _ _ _ _ _ _ _ _ f2))))
    refine wpQuiet_nil ?_
    rintro _ ⟨X, rfl⟩
    go_wp2_with (go_at_call 9; refine (validRef_true _ _ _ _ _ _ _ _ _ h).mono ?_; rintro e w1 ⟨rfl, hb⟩; (first | obtain ⟨X, rfl⟩ := GW.of2 hb | obtain ⟨X, rfl⟩ := GW.of hb); clear hb)
    first | refine wp_grow2 (by kernel_rfl) (by kernel_rfl) ?_ | refine wp_grow (by kernel_rfl) (by kernel_rfl) ?_
    repeat (go_big_quiet_step (first | (go_at_call 18; exact GW.call (at_any _ _ _)) | (go_at_call 10; exact GW.call (went_true _ _ _ _ _ _ _ _ _ _ _ _ _ _ _ (by assumption))) | (go_at_call 20; exact GW.call (stands_true _ _ _ _ _ _ _ _ _ _ _ _ (by simpa using f6))) | (go_at_call 12; exact GW.call (known_any _))))
    refine wpQuiet_nil ?_
    rintro _ ⟨X, rfl⟩
    go_wp2_with fail
    go_ret
    exact ⟨rfl, (by repeat (first | with_reducible exact Below.refl _ _ | with_reducible assumption | with_reducible exact GW.grow _ | with_reducible refine bl_alloc ?_ _ | with_reducible refine Below.drew ?_ | (with_reducible refine Below.setCell ?_ ?_ _; rotate_left; focus (simp; first | done | omega)) | with_reducible refine bl_trans ?_ (GW.grow _) | (with_reducible refine bl_trans ?_ (by assumption))))⟩

set_option maxRecDepth 100000 in
theorem motionPlaces_lifted (os : Os) (started : os.Started) (H : Type) (enc : TypeId × Value → H) :
    ReturnsInHanded {} Try.checked os 4 .any (Rows.motionPlacesSpec.pre6 enc Try.prog Try.f4 Rows.motionPlacesRow.domain false) (Rows.motionPlacesSpec.post enc Try.prog Try.f4 false true false false) := by
  refine returnsInHanded_of_change (C := Try.checked) Try.own started (by kernel_rfl) Try.func4
    (ChangeSpec.witness6 (enc := enc) (C := Try.checked) false ⟨#[], #[.agg #[.int .i64 0, .int .i64 0, .int .i64 0, .int .i64 0, .bool false], .agg #[.int .i64 0, .int .i64 0, .bool false], .int .i64 0, .int .i64 0], []⟩ 8 (by kernel_rfl) (by kernel_rfl) (by kernel_rfl) (by kernel_rfl)) ?_
  intro W base args ds gs before hval0 hW hcnd _
  have hval : ∀ (j : Nat) t v, Try.f4.params[j]? = some t → args[j]? = some v → Value.okWide Try.prog W .any base t v := hval0
  have hW' := hW
  obtain ⟨p, q, hA0, hV, rfl, hfz, hnd⟩ := hW
  have hA : DataW.TrodAll enc Try.prog W 0 (fun _ => true) true Try.f4.params.toList args.toList ds p := hA0
  rw [Try.params4] at hA hval
  obtain ⟨v0, v1, v2, v3, d0, d1, d2, d3, p0, p1, p2, p3, rfl, rfl, rfl, h0, h1, h2, h3⟩ := trodAll_four hA
  obtain ⟨rfl, rfl⟩ := trodVars_none hV
  obtain ⟨rows, cols, top, bottom, o, rfl⟩ := open_area (hval 0 _ v0 rfl rfl) h0
  obtain ⟨r, c, pe, rfl⟩ := open_cursor (hval 1 _ v1 rfl rfl) h1
  obtain ⟨m, rfl, rfl, rfl, wm⟩ := open_int Try.underlying3 (hval 2 _ v2 rfl rfl) h2
  obtain ⟨n, rfl, rfl, rfl, wn⟩ := open_int Try.underlying3 (hval 3 _ v3 rfl rfl) h3
  clear hA0 hval0
  refine (motionPlaces_any rows cols top bottom o r c pe m n W).mono fun e W' ⟨he, hw⟩ => ?_
  exact ⟨_, he, post_law Try.laidOut rfl hW' (by kernel_rfl) rfl Try.underlying4 rfl hw⟩

theorem motionPlaces_holds : Rows.MotionPlacesSaid :=
  OpenClaim.holds_of_wide 4 Try.f4 rfl rfl rfl rfl rfl rfl rfl ⟨rfl, rfl, rfl, rfl, rfl⟩ rfl rfl rfl rfl rfl (by kernel_rfl) Try.func4 (by kernel_rfl)
    (of_decide_eq_true (by kernel_rfl)) (by unfold Func.isWrapper; rw [if_neg (of_decide_eq_false (by kernel_rfl))]; exact ⟨rfl, rfl⟩)
    (fun os started H enc _ => motionPlaces_lifted os started H enc)

end Go.Proofs.Ytfcogdpkelcfbaa
