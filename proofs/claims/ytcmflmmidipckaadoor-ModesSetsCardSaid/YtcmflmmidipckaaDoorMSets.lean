/- modes: ModesSets returns true for every input. No condition. -/
import Derived.Test.YtcmflmmidipckaaDoorQ
import Derived.Test.YtcmflmmidipckaaDoorCards
import Derived.Test.YtcmflmmidipckaaDoorTie
import Derived.SevenTiedAt
import Derived.ChangeMaps5
import Derived.Outline
set_option linter.unusedSimpArgs false
set_option linter.unusedVariables false
set_option linter.unnecessarySimpa false
namespace Go.Proofs.YtcmflmmidipckaaDoor
open Go.ChangeShapes Go.WideShapes Go.ChangeAt Go.RowKit

set_option maxHeartbeats 4000000 in
set_option maxRecDepth 100000 in
theorem modesSets_any (m : Md) (p n : Int) (on : Bool) (w : World) (h : Gl w) : Calls Tryd.prog 3 #[.agg #[.bool m.aw, .bool m.ori, .bool m.ins, .bool m.vis, .bool m.app, .bool m.pas, .bool m.sgr, .int .i64 m.ptr, .int .i64 m.alt], .int .i32 p, .int .i64 n, .bool on] w fun e w' => e = .returned (.bool true) ∧ Below w.heap.size w w' := by
  have hB := h.below (bl_alloc (Below.refl _ w) (.cells #[.bool m.aw, .bool m.ori, .bool m.ins, .bool m.vis, .bool m.app, .bool m.pas, .bool m.sgr, .int .i64 m.ptr, .int .i64 m.alt] 23))
  have cV := fun W => rvalid_any m W
  have cW := fun W (hg : Glob W) => valid_any m W hg
  have cI := fun W => is_any p n W
  have cO := fun W => ron_any m p n W
  have cS := fun W => rset_any m n on W
  cases hv : validM m
  · rw [hv] at cV cW
    have t1 : setR m p n on = zeroM := by unfold setR; rw [hv]; rfl
    have t2 : setE m p n = 2 := by unfold setE; rw [hv]; rfl
    have t3 : getR m p n = 0 := by unfold getR; rw [hv]; rfl
    have t4 : getE m = 2 := by unfold getE; rw [hv]; rfl
    have cA : ∀ W, Glob W → Calls Tryd.prog 12 #[.agg #[.bool m.aw, .bool m.ori, .bool m.ins, .bool m.vis, .bool m.app, .bool m.pas, .bool m.sgr, .int .i64 m.ptr, .int .i64 m.alt], .int .i32 p, .int .i64 n, .bool on, .agg #[.bool false, .bool false, .bool false, .bool false, .bool false, .bool false, .bool false, .int .i64 0, .int .i64 0], .int .i64 2] W fun e w' => e = .returned (.bool true) ∧ Below W.heap.size W w' := fun W hg => sets_t m p n on zeroM 2 W hg t1 t2
    go_enter Tryd.func3, Tryd.ntmps3
    go_wp2_with fail
    first | refine wp_grow2 (by kernel_rfl) (by kernel_rfl) ?_ | refine wp_grow (by kernel_rfl) (by kernel_rfl) ?_
    repeat (go_big_quiet_step (first | (go_at_call 8; exact GW.call (new_any _)) | (go_at_call 9; exact GW.call (rnew_any _)) | (go_at_call 10; exact GW.call (cW _ (hB.below (GW.grow _)).g)) | (go_at_call 11; exact GW.call (cV _))))
    refine wpQuiet_nil ?_
    rintro _ ⟨X, rfl⟩
    go_wp2_with (first | (go_at_call 11; (with_reducible refine (cV _).mono ?_); rintro e w1 ⟨rfl, hb⟩; (first | obtain ⟨X, rfl⟩ := GW.of2 hb | obtain ⟨X, rfl⟩ := GW.of hb); clear hb) | (go_at_call 12; (with_reducible refine (cA _ (hB.below (GW.grow _)).g).mono ?_); rintro e w1 ⟨rfl, hb⟩; (first | obtain ⟨X, rfl⟩ := GW.of2 hb | obtain ⟨X, rfl⟩ := GW.of hb); clear hb) | (go_at_call 13; (with_reducible refine (gets_t m p n 0 2 _ (hB.below (GW.grow _)).g t3 t4).mono ?_); rintro e w1 ⟨rfl, hb⟩; (first | obtain ⟨X, rfl⟩ := GW.of2 hb | obtain ⟨X, rfl⟩ := GW.of hb); clear hb) | (go_at_call 14; (with_reducible refine (known_any _ (hB.below (GW.grow _))).mono ?_); rintro e w1 ⟨rfl, hb⟩; (first | obtain ⟨X, rfl⟩ := GW.of2 hb | obtain ⟨X, rfl⟩ := GW.of hb); clear hb))
    go_ret
    exact ⟨rfl, (by repeat (first | with_reducible exact Below.refl _ _ | with_reducible assumption | with_reducible exact GW.grow _ | with_reducible refine bl_alloc ?_ _ | with_reducible refine Below.drew ?_ | (with_reducible refine Below.setCell ?_ ?_ _; rotate_left; focus (simp; first | done | omega)) | with_reducible refine bl_trans ?_ (GW.grow _) | (with_reducible refine bl_trans ?_ (by assumption))))⟩
  · rw [hv] at cV cW
    have t4 : getE m = 0 := by unfold getE; rw [hv]; rfl
    cases hm : isM p n
    · rw [hm] at cI
      have t1 : setR m p n on = zeroM := by unfold setR; rw [hv, hm]; rfl
      have t2 : setE m p n = 9 := by unfold setE; rw [hv, hm]; rfl
      have t3 : getR m p n = 0 := by unfold getR; rw [hv, hm]; rfl
      have cA : ∀ W, Glob W → Calls Tryd.prog 12 #[.agg #[.bool m.aw, .bool m.ori, .bool m.ins, .bool m.vis, .bool m.app, .bool m.pas, .bool m.sgr, .int .i64 m.ptr, .int .i64 m.alt], .int .i32 p, .int .i64 n, .bool on, .agg #[.bool false, .bool false, .bool false, .bool false, .bool false, .bool false, .bool false, .int .i64 0, .int .i64 0], .int .i64 9] W fun e w' => e = .returned (.bool true) ∧ Below W.heap.size W w' := fun W hg => sets_t m p n on zeroM 9 W hg t1 t2
      go_enter Tryd.func3, Tryd.ntmps3
      go_wp2_with fail
      first | refine wp_grow2 (by kernel_rfl) (by kernel_rfl) ?_ | refine wp_grow (by kernel_rfl) (by kernel_rfl) ?_
      repeat (go_big_quiet_step (first | (go_at_call 8; exact GW.call (new_any _)) | (go_at_call 9; exact GW.call (rnew_any _)) | (go_at_call 10; exact GW.call (cW _ (hB.below (GW.grow _)).g)) | (go_at_call 11; exact GW.call (cV _))))
      refine wpQuiet_nil ?_
      rintro _ ⟨X, rfl⟩
      go_wp2_with (first | (go_at_call 11; (with_reducible refine (cV _).mono ?_); rintro e w1 ⟨rfl, hb⟩; (first | obtain ⟨X, rfl⟩ := GW.of2 hb | obtain ⟨X, rfl⟩ := GW.of hb); clear hb) | (go_at_call 15; (with_reducible refine (cI _).mono ?_); rintro e w1 ⟨rfl, hb⟩; (first | obtain ⟨X, rfl⟩ := GW.of2 hb | obtain ⟨X, rfl⟩ := GW.of hb); clear hb) | (go_at_call 12; (with_reducible refine (cA _ (hB.below (GW.grow _)).g).mono ?_); rintro e w1 ⟨rfl, hb⟩; (first | obtain ⟨X, rfl⟩ := GW.of2 hb | obtain ⟨X, rfl⟩ := GW.of hb); clear hb) | (go_at_call 13; (with_reducible refine (gets_t m p n 0 0 _ (hB.below (GW.grow _)).g t3 t4).mono ?_); rintro e w1 ⟨rfl, hb⟩; (first | obtain ⟨X, rfl⟩ := GW.of2 hb | obtain ⟨X, rfl⟩ := GW.of hb); clear hb) | (go_at_call 14; (with_reducible refine (known_any _ (hB.below (GW.grow _))).mono ?_); rintro e w1 ⟨rfl, hb⟩; (first | obtain ⟨X, rfl⟩ := GW.of2 hb | obtain ⟨X, rfl⟩ := GW.of hb); clear hb))
      go_ret
      exact ⟨rfl, (by repeat (first | with_reducible exact Below.refl _ _ | with_reducible assumption | with_reducible exact GW.grow _ | with_reducible refine bl_alloc ?_ _ | with_reducible refine Below.drew ?_ | (with_reducible refine Below.setCell ?_ ?_ _; rotate_left; focus (simp; first | done | omega)) | with_reducible refine bl_trans ?_ (GW.grow _) | (with_reducible refine bl_trans ?_ (by assumption))))⟩
    · rw [hm] at cI
      have t1 : setR m p n on = setM m n on := by unfold setR; rw [hv, hm]; rfl
      have t2 : setE m p n = 0 := by unfold setE; rw [hv, hm]; rfl
      have t3 : getR m p n = if onM m n = true then 1 else 2 := by unfold getR; rw [hv, hm]; rfl
      obtain ⟨r, hr⟩ : ∃ r, setM m n on = r := ⟨_, rfl⟩
      rw [hr] at t1 cS
      cases ho : onM m n
      all_goals
        rw [ho] at cO t3
        go_enter Tryd.func3, Tryd.ntmps3
        go_wp2_with fail
        first | refine wp_grow2 (by kernel_rfl) (by kernel_rfl) ?_ | refine wp_grow (by kernel_rfl) (by kernel_rfl) ?_
        repeat (go_big_quiet_step (first | (go_at_call 8; exact GW.call (new_any _)) | (go_at_call 9; exact GW.call (rnew_any _)) | (go_at_call 10; exact GW.call (cW _ (hB.below (GW.grow _)).g)) | (go_at_call 11; exact GW.call (cV _))))
        refine wpQuiet_nil ?_
        rintro _ ⟨X, rfl⟩
        go_wp2_with (first | (go_at_call 11; (with_reducible refine (cV _).mono ?_); rintro e w1 ⟨rfl, hb⟩; (first | obtain ⟨X, rfl⟩ := GW.of2 hb | obtain ⟨X, rfl⟩ := GW.of hb); clear hb) | (go_at_call 15; (with_reducible refine (cI _).mono ?_); rintro e w1 ⟨rfl, hb⟩; (first | obtain ⟨X, rfl⟩ := GW.of2 hb | obtain ⟨X, rfl⟩ := GW.of hb); clear hb) | (go_at_call 16; (with_reducible refine (cO _).mono ?_); rintro e w1 ⟨rfl, hb⟩; (first | obtain ⟨X, rfl⟩ := GW.of2 hb | obtain ⟨X, rfl⟩ := GW.of hb); clear hb))
        first | refine wp_grow2 (by kernel_rfl) (by kernel_rfl) ?_ | refine wp_grow (by kernel_rfl) (by kernel_rfl) ?_
        repeat (go_big_quiet_step (first | (go_at_call 17; exact GW.call (cS _)) | (go_at_call 12; exact GW.call (sets_t m p n on r 0 _ (hB.below (GW.grow _)).g t1 t2)) | (go_at_call 13; exact GW.call (gets_t m p n _ 0 _ (hB.below (GW.grow _)).g t3 t4)) | (go_at_call 14; exact GW.call (known_any _ (hB.below (GW.grow _))))))
        refine wpQuiet_nil ?_
        rintro _ ⟨X, rfl⟩
        go_wp2_with fail
        go_ret
        exact ⟨rfl, (by repeat (first | with_reducible exact Below.refl _ _ | with_reducible assumption | with_reducible exact GW.grow _ | with_reducible refine bl_alloc ?_ _ | with_reducible refine Below.drew ?_ | (with_reducible refine Below.setCell ?_ ?_ _; rotate_left; focus (simp; first | done | omega)) | with_reducible refine bl_trans ?_ (GW.grow _) | (with_reducible refine bl_trans ?_ (by assumption))))⟩

set_option maxRecDepth 100000 in
theorem modesSets_lifted (os : Os) (started : os.Started) (H : Type) (enc : TypeId × Value → H) :
    ReturnsInHanded {} Tryd.checked os 3 .any (fun w args => (Rows.modesSetsSpec.pre enc Tryd.prog Tryd.f3 [] false w args ∧ laidMetH Tryd.prog laid6 w) ∧ sizedMet enc Tryd.prog Tryd.f3 (OpenSpec.ofChange Rows.modesSetsSpec) false w args)
      (Rows.modesSetsSpec.post enc Tryd.prog Tryd.f3 false true false false) := by
  refine returnsInHanded_of_change_and (C := Tryd.checked) (X := fun w _ => laidMetH Tryd.prog laid6 w) (fun _ _ _ hh h => h.of_heap hh) Tryd.own started (by kernel_rfl) Tryd.func3
    (ChangeSpec.witness_shaped (enc := enc) (C := Tryd.checked) (os := os) (X := fun w _ => laidMetH Tryd.prog laid6 w) false (World.doorLaid Tryd.prog 400 os) #[.agg #[.bool false, .bool false, .bool false, .bool false, .bool false, .bool false, .bool false, .int .i64 0, .int .i64 0], .int .i32 0, .int .i64 0, .bool false] 8 rfl (World.shaped_of_RefB (by kernel_rfl) (by kernel_rfl)) (by kernel_rfl) (by kernel_rfl) (by kernel_rfl) (door_met os _)) ?_
  intro W base args ds gs before hval0 hW _ _ hL _
  have hval : ∀ (j : Nat) t v, Tryd.f3.params[j]? = some t → args[j]? = some v → Value.okWide Tryd.prog W .any base t v := hval0
  have hW' := hW
  obtain ⟨p, q, hA0, hV, rfl, hfz, hnd⟩ := hW
  have hA : DataW.TrodAll enc Tryd.prog W 0 (fun _ => true) true Tryd.f3.params.toList args.toList ds p := hA0
  rw [Tryd.params3] at hA hval
  obtain ⟨v0, v1, v2, v3, d0, d1, d2, d3, p0, p1, p2, p3, rfl, rfl, rfl, h0, h1, h2, h3⟩ := trodAll_four hA
  obtain ⟨rfl, rfl⟩ := trodVars_none hV
  obtain ⟨m, rfl⟩ := open_modes (hval 0 23 v0 rfl rfl) h0
  obtain ⟨p, rfl, hp⟩ := open_num Tryd.underlying21 (hval 1 21 v1 rfl rfl) h1
  obtain ⟨n, rfl, hn⟩ := open_num Tryd.underlying3 (hval 2 3 v2 rfl rfl) h2
  obtain ⟨on, rfl, rfl, rfl⟩ := open_bool Tryd.underlying4 (hval 3 4 v3 rfl rfl) h3
  clear hA0 hval0
  have hT := gl_of_laid hL
  refine (modesSets_any m p n on W hT).mono fun e W' ⟨he, hw⟩ => ?_
  exact ⟨_, he, post_law Tryd.laidOut rfl hW' (by kernel_rfl) rfl Tryd.underlying4 rfl hw⟩

theorem modesSets_row : Rows.ModesSetsSaid :=
  OpenClaim.holds_of_wide 3 Tryd.f3 rfl rfl rfl rfl rfl rfl rfl ⟨rfl, rfl, rfl, rfl, rfl⟩ rfl rfl rfl rfl rfl (by kernel_rfl) Tryd.func3 (by kernel_rfl)
    (of_decide_eq_true (by kernel_rfl)) (by unfold Func.isWrapper; first | (rw [if_pos (by decide +kernel)]; kernel_rfl) | (rw [if_neg (by decide +kernel)]; exact ⟨rfl, rfl⟩))
    (fun os started H enc _ => modesSets_lifted os started H enc)

set_option maxHeartbeats 8000000 in
set_option maxRecDepth 100000 in
/-- THE TIED CARD. -/
theorem modesSets_holds : Rows.ModesSetsCardSaid :=
  Claim7.holds_tied_plain_at .later [] [.data, .data, .data, .widerDeep, .widerDeep, .data] true (true, "082af3f8aacec7cf6ea860407a8f5c1359f35139287309ad6771865f650f040d") false
    modesSets_row (fun _ h => by cases h) (by kernel_rfl) (fun _ h => by cases h) modesSets_row_tie rfl ⟨rfl, rfl⟩ (by kernel_rfl) rfl
    (fun f fn hf hfn => by
      obtain rfl : f = 3 := Option.some.inj ((show Tryd.prog.funcNamed "scrollback/scrollbacklaw22.ModesSets" = some 3 by kernel_rfl).symm.trans hf) |>.symm
      obtain rfl : fn = Tryd.f3 := (Option.some.inj (Tryd.func3.symm.trans hfn)).symm
      exact ⟨by kernel_rfl, fun j t ht => by
        rw [Tryd.params3] at ht
        have hm : t ∈ [23, 21, 3, 4] := by simpa using Array.mem_of_getElem? ht
        have hall : ([23, 21, 3, 4].all fun u => !Tryd.prog.wantsStandIn u) = true := by kernel_rfl
        exact (show Tryd.prog.wantsStandIn t = false by simpa using List.all_eq_true.1 hall t hm)⟩)
    (by kernel_rfl)

end Go.Proofs.YtcmflmmidipckaaDoor
